/- wattleplay.Live: at most two of its disks are not live. -/
import Derived.Test.YtenjpldinnbcbaaLive
namespace Go.Proofs.Ytenjpldinnbcbaa
open Go.RowKit
set_option linter.unusedVariables false
set_option linter.unusedSimpArgs false
set_option maxRecDepth 100000
set_option maxHeartbeats 2000000

/-- at most t are false -/
def AL (t : Nat) (l : List Bool) : Prop := ∃ S : List Nat, S.length ≤ t ∧ ∀ i, i < l.length → i ∉ S → l.getD i false = true
theorem AL.dead {t : Nat} {l : List Bool} (h : AL t l) (k : Nat) : AL (t + 1) (l.set k false) := by
  obtain ⟨S, h1, h2⟩ := h
  refine ⟨k :: S, by simp; omega, fun i hi hn => ?_⟩
  rw [List.length_set] at hi
  have hk : k ≠ i := fun e => hn (by rw [e]; exact List.mem_cons_self ..)
  rw [List.getD_eq_getElem?_getD, List.getElem?_set_ne hk, ← List.getD_eq_getElem?_getD]
  exact h2 i hi (fun h => hn (List.mem_cons_of_mem _ h))
theorem AL.more {t u : Nat} {l : List Bool} (h : AL t l) (hu : t ≤ u) : AL u l := by
  obtain ⟨S, h1, h2⟩ := h
  exact ⟨S, by omega, h2⟩
theorem AL.set {l : List Bool} {k : Nat} (h : ∀ i, i < k → l.getD i false = true) (hk : k < l.length) : ∀ i, i < k + 1 → (l.set k true).getD i false = true := by
  intro i hi
  by_cases e : k = i
  · subst e; rw [List.getD_eq_getElem?_getD, List.getElem?_set_self hk]; rfl
  · rw [List.getD_eq_getElem?_getD, List.getElem?_set_ne e, ← List.getD_eq_getElem?_getD]; exact h i (by omega)
theorem AL.one {l : List Bool} (h : AL 2 l) (h4 : l.length = 4) : ∃ k, k < 4 ∧ B.live1 l k = true := by
  obtain ⟨S, h1, h2⟩ := h
  have key : ∀ k, k < 4 → k ∉ S → ∃ k, k < 4 ∧ B.live1 l k = true := fun k hk hn => ⟨k, hk, h2 k (by omega) hn⟩
  by_cases a : 0 ∈ S
  · by_cases b : 1 ∈ S
    · by_cases c : 2 ∈ S
      · exfalso
        match S, h1, a, b, c with
        | [], _, a, _, _ => cases a
        | [x], _, a, b, _ => simp at a b; omega
        | [x, y], _, a, b, c => simp at a b c; omega
        | x :: y :: z :: S, h1, _, _, _ => simp at h1
      · exact key 2 (by decide) c
    · exact key 1 (by decide) b
  · exact key 0 (by decide) a
theorem live2_any (x : Int) (d : Nat) (w : World) (h1 : 1 ≤ d) (h8 : d ≤ 8) (hx : -9223372036854775808 ≤ x ∧ x ≤ 9223372036854775807) :
    Calls Try.prog 16 #[.int .i64 x, .int .i64 d] w fun e w' => ∃ v l, e = .returned v ∧ l.length = d ∧ AL 2 l ∧ OwnT w' w.heap.size v l ∧ Below w.heap.size w w' := by
  obtain ⟨j0, hj, hy0, hy1, hy2⟩ := info_parts bool_info
  have HX := Lib.hid hx
  have HD := Lib.hid (And.intro h1 h8)
  have hd0 : (0 : Int) < (d : Int) := by omega
  have hd0N : 0 < d := by omega
  have hdP : ((d : Int) > 0) = True := by simpa using hd0N
  have W3 := Lib.hid (fun w => within_any x 3 w (by decide) hx.1 hx.2)
  have W9 := Lib.hid (fun w => within_any x 9 w (by decide) hx.1 hx.2)
  clear h1 h8 hx
  go_enter Try.func16, Try.ntmps16
  go_wp2_with (first
    | (at_make; go_loud (refine wpList_make_bools rfl _ _ 28 rfl j0 Try.underlying28 hj hy0 hy1 hy2 _ _ _ _ d rfl rfl rfl rfl (by have := HD.out; omega) ?_); intro w1 O1 b1)
    | fail)
  have HO1 : Hid (∃ l, OwnT w1 w.heap.size (.slice (some ⟨w.heap.size, 0, none⟩) d d) l ∧ l.length = d ∧ ∀ i, i < 0 → l.getD i false = true) := ⟨_, O1, by simp, fun i hi => by omega⟩
  clear O1
  go_loopw [11] (fun i X => ∃ k : Nat, k ≤ d ∧ i = .int .i64 k ∧ Hid (∃ l, OwnT X w.heap.size (.slice (some ⟨w.heap.size, 0, none⟩) d d) l ∧ l.length = d ∧ ∀ i, i < k → l.getD i false = true) ∧ Below w.heap.size w X) (fun i _ => d - (intOf i).toNat)
  case atStart => exact ⟨0, Nat.zero_le _, rfl, HO1, b1⟩
  case round =>
    obtain ⟨k, hk, rfl, hO, BX⟩ := hrel
    obtain ⟨l, Ol, hl, hp⟩ := hO.out
    by_cases hlt : k < d
    · obtain ⟨y, hcy, hfy⟩ := Ol.cellAt (k := k) (by omega)
      have HST := Lib.hid (Ol.store k true)
      have HLL := Lib.hid hl
      have hkI : (k : Int) < (d : Int) := by omega
      have hk0 : (0 : Int) ≤ (k : Int) := by omega
      have hk1' : IntKind.i64.wrap ((k : Int) + 1) = ((k + 1 : Nat) : Int) := by have := HD.out; rw [IntKind.wrap_i64]; omega
      have HLT := Lib.hid hlt
      have HPP := Lib.hid hp
      clear Ol hl hlt hO hp
      go_wp2
      go_roundw
      case rel => exact ⟨k + 1, HLT.out, by go_num, ⟨_, HST.out.1, by rw [List.length_set]; exact HLL.out, AL.set HPP.out (by rw [HLL.out]; exact HLT.out)⟩, BX.grown HST.out.2 BX.size (fun g hg => by cases hg; exact Nat.le_refl _)⟩
      case measure => have := HLT.out; simp [intOf]; omega
    · have hkI : ¬ (k : Int) < (d : Int) := by omega
      have hjB : decide ((k : Int) < (d : Int)) = false := decide_eq_false hkI
      have hjP : ((k : Int) < (d : Int)) = False := eq_false hkI
      have hO : Hid (∃ l, OwnT wr w.heap.size (.slice (some ⟨w.heap.size, 0, none⟩) d d) l ∧ l.length = d ∧ AL 0 l) := ⟨l, Ol, hl, [], Nat.le_refl _, fun i hi _ => hp i (by omega)⟩
      clear Ol hl hlt hp
      have W27 := Lib.hid (fun w => within_any (wrap64 (x.tdiv 27)) d w (by have := HD.out; omega) (wrap64_in _).1 (wrap64_in _).2)
      have WT3 := Lib.hid (fun w => within_any (wrap64 (x.tdiv 3)) d w (by have := HD.out; omega) (wrap64_in _).1 (wrap64_in _).2)
      go_wp2_with fail
      refine Calls.mono (W3.out _) ?_
      rintro r w5 ⟨rfl, rfl⟩
      obtain ⟨m3, hm3⟩ : ∃ m, m = withinI x 3 := ⟨_, rfl⟩
      rw [← hm3]
      clear hm3
      by_cases h3 : m3 > 0
      · have HW := Lib.hid (WT3.out wr)
        obtain ⟨i3, hi3⟩ : ∃ i : Nat, (i : Int) = withinI (wrap64 (x.tdiv 3)) d := ⟨(withinI (wrap64 (x.tdiv 3)) d).toNat, by have := withinI_ge (wrap64 (x.tdiv 3)) d; omega⟩
        have hi3d : i3 < d := by have := withinI_lt (wrap64 (x.tdiv 3)) d (by omega); omega
        rw [← hi3] at HW
        obtain ⟨l, Ol, hl, hp⟩ := hO.out
        obtain ⟨y, hcy, hfy⟩ := Ol.cellAt (k := i3) (by omega)
        obtain ⟨O3, g3⟩ := Ol.store i3 false
        have HO3 : Hid (∃ l, OwnT (wr.setCell ⟨w.heap.size, i3, none⟩ (.bool false)) w.heap.size (.slice (some ⟨w.heap.size, 0, none⟩) d d) l ∧ l.length = d ∧ AL 1 l) := ⟨_, O3, by rw [List.length_set]; exact hl, hp.dead _⟩
        have B3 : Below w.heap.size w (wr.setCell ⟨w.heap.size, i3, none⟩ (.bool false)) := BX.grown g3 BX.size (fun g hg => by cases hg; exact Nat.le_refl _)
        have hkI3 : (i3 : Int) < (d : Int) := by omega
        have hk03 : (0 : Int) ≤ (i3 : Int) := by omega
        clear Ol hl hi3 hi3d O3 g3 hO hp
        go_wp2_with fail
        refine Calls.mono HW.out ?_
        rintro r w6 ⟨rfl, rfl⟩
        go_wp2_with fail
        refine Calls.mono (W9.out _) ?_
        rintro r w5 ⟨rfl, rfl⟩
        obtain ⟨m9, hm9⟩ : ∃ m, m = withinI x 9 := ⟨_, rfl⟩
        rw [← hm9]
        clear hm9
        by_cases h9 : m9 = 8
        · subst h9
          have HW := Lib.hid (W27.out (wr.setCell ⟨w.heap.size, i3, none⟩ (.bool false)))
          obtain ⟨i9, hi9⟩ : ∃ i : Nat, (i : Int) = withinI (wrap64 (x.tdiv 27)) d := ⟨(withinI (wrap64 (x.tdiv 27)) d).toNat, by have := withinI_ge (wrap64 (x.tdiv 27)) d; omega⟩
          have hi9d : i9 < d := by have := withinI_lt (wrap64 (x.tdiv 27)) d (by omega); omega
          rw [← hi9] at HW
          obtain ⟨l, Ol, hl, hp⟩ := HO3.out
          obtain ⟨y, hcy, hfy⟩ := Ol.cellAt (k := i9) (by omega)
          have HST := Lib.hid (Ol.store i9 false)
          have HLL := Lib.hid hl
          have hkI9 : (i9 : Int) < (d : Int) := by omega
          have hk09 : (0 : Int) ≤ (i9 : Int) := by omega
          have HPP := Lib.hid (hp.dead i9)
          clear Ol hl hi9 hi9d hp
          go_wp2_with fail
          refine Calls.mono HW.out ?_
          rintro r w6 ⟨rfl, rfl⟩
          go_wp2
          go_ret
          exact ⟨_, _, rfl, by rw [List.length_set]; exact HLL.out, HPP.out, HST.out.1, B3.grown HST.out.2 B3.size (fun g hg => by cases hg; exact Nat.le_refl _)⟩
        · have hb9 : (m9 == 8) = false := by rw [beq_eq_false_iff_ne]; exact h9
          clear h9
          go_wp2
          go_ret
          obtain ⟨l, Ol, hl, hp⟩ := HO3.out
          exact ⟨_, _, rfl, hl, hp.more (by decide), Ol, B3⟩
      · go_wp2_with fail
        refine Calls.mono (W9.out _) ?_
        rintro r w5 ⟨rfl, rfl⟩
        obtain ⟨m9, hm9⟩ : ∃ m, m = withinI x 9 := ⟨_, rfl⟩
        rw [← hm9]
        clear hm9
        by_cases h9 : m9 = 8
        · subst h9
          have HW := Lib.hid (W27.out wr)
          obtain ⟨i9, hi9⟩ : ∃ i : Nat, (i : Int) = withinI (wrap64 (x.tdiv 27)) d := ⟨(withinI (wrap64 (x.tdiv 27)) d).toNat, by have := withinI_ge (wrap64 (x.tdiv 27)) d; omega⟩
          have hi9d : i9 < d := by have := withinI_lt (wrap64 (x.tdiv 27)) d (by omega); omega
          rw [← hi9] at HW
          obtain ⟨l, Ol, hl, hp⟩ := hO.out
          obtain ⟨y, hcy, hfy⟩ := Ol.cellAt (k := i9) (by omega)
          have HST := Lib.hid (Ol.store i9 false)
          have HLL := Lib.hid hl
          have hkI9 : (i9 : Int) < (d : Int) := by omega
          have hk09 : (0 : Int) ≤ (i9 : Int) := by omega
          have HPP := Lib.hid ((hp.dead i9).more (show 1 ≤ 2 by decide))
          clear Ol hl hi9 hi9d hp
          go_wp2_with fail
          refine Calls.mono HW.out ?_
          rintro r w6 ⟨rfl, rfl⟩
          go_wp2
          go_ret
          exact ⟨_, _, rfl, by rw [List.length_set]; exact HLL.out, HPP.out, HST.out.1, BX.grown HST.out.2 BX.size (fun g hg => by cases hg; exact Nat.le_refl _)⟩
        · have hb9 : (m9 == 8) = false := by rw [beq_eq_false_iff_ne]; exact h9
          clear h9
          go_wp2
          go_ret
          obtain ⟨l, Ol, hl, hp⟩ := hO.out
          exact ⟨_, _, rfl, hl, hp.more (by decide), Ol, BX⟩
end Go.Proofs.Ytenjpldinnbcbaa
