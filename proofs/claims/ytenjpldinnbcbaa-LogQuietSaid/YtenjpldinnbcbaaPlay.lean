/- The walk of the laws' own Sector of a number. -/
import Derived.Test.YtenjpldinnbcbaaKeep
import Derived.Test.YtenjpldinnbcbaaMoreF
namespace Go.Proofs.Ytenjpldinnbcbaa
open Go.RowKit
set_option linter.unusedVariables false
set_option linter.unusedSimpArgs false
set_option maxRecDepth 100000
set_option maxHeartbeats 1000000

/-- a byte of it -/
def secB (n : Int) (k : Nat) : Nat := (wrap64 (n + wrap64 ((k : Int) * bits BinOp.or IntKind.i64 (n.tdiv 7) 1)) % 256).toNat
/-- the sector of a number -/
def secL (n : Int) : List Nat := if withinI n 11 = 10 then List.replicate 32 0 else (List.range 32).map (secB n)
theorem secL_len (n : Int) : (secL n).length = 32 := by unfold secL; split <;> simp
theorem secB_lt (n : Int) (k : Nat) : secB n k < 256 := by unfold secB; omega
theorem secL_byte (n : Int) : ∀ x ∈ secL n, x < 256 := by
  intro x hx
  unfold secL at hx
  split at hx
  · rw [List.eq_of_mem_replicate hx]; decide
  · obtain ⟨k, _, rfl⟩ := List.mem_map.1 hx
    exact secB_lt n k
/-- the first k bytes are laid -/
def secM (n : Int) (k : Nat) : List Nat := (List.range 32).map (fun i => if i < k then secB n i else 0)
theorem secM_zero (n : Int) : secM n 0 = List.replicate 32 0 := by
  have e : (fun i => if i < 0 then secB n i else 0) = fun _ => 0 := by funext i; simp
  unfold secM
  rw [e]
  rfl
theorem secM_end (n : Int) : secM n 32 = (List.range 32).map (secB n) := by
  unfold secM
  apply List.map_congr_left
  intro m hm
  rw [if_pos (List.mem_range.1 hm)]
theorem secM_get (n : Int) {k : Nat} (hk : k < 32) : (secM n k)[k]? = some 0 := by simp [secM, hk]
theorem secM_set (n : Int) {k : Nat} (hk : k < 32) : (secM n k).set k (secB n k) = secM n (k + 1) := by
  apply List.ext_getElem?
  intro m
  rw [List.getElem?_set]
  by_cases hm : m < 32
  · by_cases hkm : k = m
    · subst hkm; simp [secM, hk]
    · rw [if_neg hkm]
      simp only [secM, List.getElem?_map, List.getElem?_range hm, Option.map_some]
      congr 1
      by_cases h1 : m < k
      · rw [if_pos h1, if_pos (by omega)]
      · rw [if_neg h1, if_neg (by omega)]
  · rw [if_neg (by omega), List.getElem?_eq_none (by simp [secM]; omega), List.getElem?_eq_none (by simp [secM]; omega)]
theorem sector_any (n : Int) (w : World) (h1 : -9223372036854775808 ≤ n ∧ n ≤ 9223372036854775807) :
    Calls Try.prog 41 #[.int .i64 n] w fun e w' => ∃ v, e = .returned v ∧ Own w' w.heap.size v (secL n) ∧ Below w.heap.size w w' := by
  obtain ⟨j0, hj, hy0, hy1, hy2⟩ := info_parts uint8_info
  go_enter Try.func41, Try.ntmps41
  go_wp2_with (first
    | (at_make; go_loud (refine wpList_make_bytes rfl _ _ 48 rfl j0 Try.underlying48 hj hy0 hy1 hy2 _ _ _ _ 32 rfl rfl rfl rfl (by decide) ?_); intro w1 O1 b1)
    | fail)
  refine Calls.mono (within_any n 11 _ (by decide) h1.1 h1.2) ?_
  rintro e w2 ⟨rfl, rfl⟩
  by_cases h10 : withinI n 11 = 10
  · have hb : (withinI n 11 == 10) = true := by rw [h10]; rfl
    have HE : Hid (secL n = List.replicate 32 0) := by show _ = _; unfold secL; rw [if_pos h10]
    clear h10
    go_wp2
    go_ret
    exact ⟨_, rfl, by rw [HE.out]; exact O1, b1⟩
  · have hb : (withinI n 11 == 10) = false := by rw [beq_eq_false_iff_ne]; exact h10
    have HE : Hid (secL n = (List.range 32).map (secB n)) := by show _ = _; unfold secL; rw [if_neg h10]
    clear h10
    go_wp2_with fail
    go_loopw [12] (fun i w' => ∃ k : Nat, k ≤ 32 ∧ i = .int .i64 k ∧ Hid (Own w' w.heap.size (.slice (some ⟨w.heap.size, 0, none⟩) 32 32) (secM n k)) ∧ Below w.heap.size w w') (fun i _ => 32 - (intOf i).toNat)
    case atStart => exact ⟨0, by decide, rfl, Lib.hid (by rw [secM_zero]; exact O1), b1⟩
    case round =>
      obtain ⟨k, hk, rfl, hO, hB⟩ := hrel
      by_cases hlt : k < 32
      · obtain ⟨hx8, hxc, hxf⟩ := hO.out.cells (secM_get n hlt)
        have HST := Lib.hid (hO.out.store k (secB n k) (secB_lt n k))
        have HV : Hid (Value.int .u8 (wrap64 (n + wrap64 ((k : Int) * bits BinOp.or IntKind.i64 (n.tdiv 7) 1)) % 256) = Value.int .u8 ((secB n k : Nat) : Int)) := by
          show _ = _
          congr 1
          unfold secB
          omega
        have HS : Hid ((secM n k).set k (secB n k) = secM n (k + 1)) := secM_set n hlt
        clear hx8
        go_wp2
        go_roundw
        case rel =>
          rw [HV.out]
          exact ⟨k + 1, by omega, by go_num, Lib.hid (by rw [← HS.out]; exact HST.out.1), hB.grown HST.out.2 hB.size (fun g hg => by cases hg; exact Nat.le_refl _)⟩
        case measure => simp [intOf]; omega
      · have h32 : k = 32 := by omega
        have e : secM n k = secM n 32 := by rw [h32]
        have HO : Hid (Own wr w.heap.size (.slice (some ⟨w.heap.size, 0, none⟩) 32 32) (secL n)) := by
          show Own _ _ _ _
          rw [HE.out, ← secM_end, ← e]; exact hO.out
        clear h32 e
        go_wp2
        go_ret
        exact ⟨_, rfl, HO.out, hB⟩
end Go.Proofs.Ytenjpldinnbcbaa
