/- The walk of wattleplay.Sectors. -/
import Derived.Test.YtenjpldinnbcbaaLive
import Derived.Test.YtenjpldinnbcbaaPlay
import Derived.Test.YtenjpldinnbcbaaOpen
import Derived.Test.YtenjpldinnbcbaaInfo
namespace Go.Proofs.Ytenjpldinnbcbaa
open Go.RowKit
set_option linter.unusedVariables false
set_option linter.unusedSimpArgs false
set_option maxRecDepth 100000
set_option maxHeartbeats 2000000

theorem Ints.cellAt {w : World} {ao : Option Addr} {n cap : Nat} {l : List Int} (h : Ints w (.slice ao n cap) l) {k : Nat} (hk : k < l.length) :
    ∃ b off x, ao = some ⟨b, off, none⟩ ∧ w.cell? ⟨b, off + k, none⟩ = some (.int .i64 x) ∧ Hid (l[k]? = some x) ∧ (-9223372036854775808 ≤ x ∧ x ≤ 9223372036854775807) := by
  obtain ⟨ao', cap', e, h1, h2, h0, h3, hA⟩ := h
  cases e
  obtain ⟨b, off, c, rfl, hc, hck⟩ := hA.cell (k := k) (by simpa using hk)
  rw [List.getElem?_map, List.getElem?_eq_getElem hk] at hck
  simp only [Option.map_some, Option.some.injEq] at hck
  exact ⟨b, off, l[k], rfl, by rw [hc, ← hck]; rfl, List.getElem?_eq_getElem hk, h3 _ (List.getElem_mem hk)⟩
theorem Ints.shapeI {w : World} {v : Value} {l : List Int} (h : Ints w v l) : ∃ ao cap, v = .slice ao l.length cap ∧ l.length ≤ cap ∧ cap ≤ 9223372036854775807 := by
  obtain ⟨ao, cap, rfl, h1, h2, _⟩ := h
  exact ⟨ao, cap, rfl, h1, h2⟩
/-- sectors of numbers: so many -/
def sectL (l : List Int) (n : Nat) : List (List Nat) := (List.range n).map (fun i => secL (l.getD i (3 * (i : Int))))
theorem sectL_len (l : List Int) (n : Nat) : (sectL l n).length = n := by simp [sectL]
theorem sectL_32 (l : List Int) (n : Nat) : ∀ p ∈ sectL l n, p.length = 32 := by
  intro p hp
  obtain ⟨i, _, rfl⟩ := List.mem_map.1 hp
  exact secL_len _
theorem sectL_byte (l : List Int) (n : Nat) : ∀ p ∈ sectL l n, ∀ x ∈ p, x < 256 := by
  intro p hp
  obtain ⟨i, _, rfl⟩ := List.mem_map.1 hp
  exact secL_byte _
theorem sectL_step (l : List Int) (n : Nat) : sectL l (n + 1) = sectL l n ++ [secL (l.getD n (3 * (n : Int)))] := by
  unfold sectL
  rw [List.range_succ, List.map_append]; rfl
attribute [local irreducible] Go.Calls Byt Own Parts OwnD
theorem sectors13_any (lv : Value) (l : List Int) (n : Nat) (w : World) (h : Ints w lv l) (hn : n ≤ 1000) :
    Calls Try.prog 18 #[lv, .int .i64 n] w fun e w' => ∃ v', e = .returned v' ∧ OwnD w' w.heap.size v' (sectL l n) (fun _ => False) ∧ Below w.heap.size w w' := by
  obtain ⟨i0, hi, hz0, hz1, hz2⟩ := info_parts parts_info
  have HI := Lib.hid h
  obtain ⟨al, cl, rfl, hl1, hl2⟩ := h.shapeI
  obtain ⟨m, hm⟩ : ∃ m, m = l.length := ⟨_, rfl⟩
  rw [← hm] at HI hl1 ⊢
  have HM := Lib.hid hm
  have HN := Lib.hid hn
  clear h hm hn
  go_enter Try.func18, Try.ntmps18
  go_wp2
  go_loopw [5, 6] (fun v i X => ∃ k : Nat, k ≤ n ∧ i = .int .i64 k ∧ Hid (OwnD X w.heap.size v (sectL l k) (fun _ => False)) ∧ Below w.heap.size w X) (fun _ i _ => n - (intOf i).toNat)
  case atStart => exact ⟨0, Nat.zero_le _, rfl, Lib.hid (OwnD.nil _ _ _), belR _⟩
  case round =>
    obtain ⟨k, hk, rfl, hO, BX⟩ := hrel
    by_cases hlt : k < n
    · have HLT := Lib.hid hlt
      have hkn : (k : Int) < (n : Int) := by omega
      have hk0 : (0 : Int) ≤ (k : Int) := by omega
      have hk1' : IntKind.i64.wrap ((k : Int) + 1) = ((k + 1 : Nat) : Int) := by have := HN.out; rw [IntKind.wrap_i64]; omega
      have hk3 : IntKind.i64.wrap (3 * (k : Int)) = 3 * (k : Int) := by have := HN.out; rw [IntKind.wrap_i64]; omega
      have HL2 : Hid ((sectL l k).length ≤ 1048576) := Lib.hid (by rw [sectL_len]; have := HN.out; omega)
      clear hlt
      by_cases hkm : k < m
      · have hkm' : (k : Int) < (m : Int) := by omega
        obtain ⟨bb, ob, x, rfl, hx, hxk, hx8⟩ := (HI.out.up BX).cellAt (k := k) (by rw [← HM.out]; exact hkm)
        have EX : Hid (secL (l.getD k (3 * (k : Int))) = secL x) := by show _ = _; rw [List.getD, hxk.out]; rfl
        have HX8 := Lib.hid hx8
        clear hkm hx8
        go_wp2_with (first
          | (go_at_call 41; go_loud (refine Calls.mono (sector_any x _ HX8.out) ?_); rintro e w5 ⟨v5, rfl, O5, b5⟩; obtain ⟨a5, k5, rfl, _, _⟩ := O5.byt.shapeN (secL_len x))
          | (at_builtin; go_loud (refine wpList_append_rowD rfl (.tmp 23) (.tmp 26) 31 rfl i0 Try.underlying31 hi hz0 hz1 hz2 w.heap.size _ _ _ rfl wr (belA1 b5) hO.out (fun g hg => hg.elim) _ _ (secL x) rfl (At.one _ _ _ (by first | rfl | simp)) (O5.up (belA1 (belR _))) HL2.out BX.size ?_); intro v6 w6 O6 g6))
        go_roundw
        case rel => exact ⟨k + 1, HLT.out, by go_num, Lib.hid (by rw [sectL_step, EX.out]; exact O6), belG (belA1 (belT BX b5)) g6 (fun g hg => hO.out.ge g hg)⟩
        case measure => have := HLT.out; simp [intOf]; omega
      · have hkB : decide ((k : Int) < (m : Int)) = false := by rw [decide_eq_false_iff_not]; omega
        have hkP : ((k : Int) < (m : Int)) = False := by rw [eq_iff_iff]; exact ⟨fun h => by omega, fun h => h.elim⟩
        have EX : Hid (secL (l.getD k (3 * (k : Int))) = secL (3 * (k : Int))) := by show _ = _; rw [List.getD, List.getElem?_eq_none (by rw [← HM.out]; omega)]; rfl
        have HX8 : Hid (-9223372036854775808 ≤ 3 * (k : Int) ∧ 3 * (k : Int) ≤ 9223372036854775807) := by have := HN.out; have := HLT.out; show _ ∧ _; omega
        clear hkm
        go_wp2_with (first
          | (go_at_call 41; go_loud (refine Calls.mono (sector_any (3 * (k : Int)) _ HX8.out) ?_); rintro e w5 ⟨v5, rfl, O5, b5⟩; obtain ⟨a5, k5, rfl, _, _⟩ := O5.byt.shapeN (secL_len (3 * (k : Int))))
          | (at_builtin; go_loud (refine wpList_append_rowD rfl (.tmp 23) (.tmp 26) 31 rfl i0 Try.underlying31 hi hz0 hz1 hz2 w.heap.size _ _ _ rfl wr (belA1 b5) hO.out (fun g hg => hg.elim) _ _ (secL (3 * (k : Int))) rfl (At.one _ _ _ (by first | rfl | simp)) (O5.up (belA1 (belR _))) HL2.out BX.size ?_); intro v6 w6 O6 g6))
        go_roundw
        case rel => exact ⟨k + 1, HLT.out, by go_num, Lib.hid (by rw [sectL_step, EX.out]; exact O6), belG (belA1 (belT BX b5)) g6 (fun g hg => hO.out.ge g hg)⟩
        case measure => have := HLT.out; simp [intOf]; omega
    · have e1 : k = n := by omega
      subst e1
      go_wp2
      go_ret
      exact ⟨_, rfl, hO.out, BX⟩
end Go.Proofs.Ytenjpldinnbcbaa
