/- The walk of the laws' own Parts (chapter 3). -/
import Derived.Test.YtknodcaknopcnaaSyndRef
import Derived.Test.YtknodcaknopcnaaInfo
import Derived.Test.YtknodcaknopcnaaKeepCut
namespace Go.Proofs.Ytknodcaknopcnaa
open Go.RowKit
set_option linter.unusedVariables false
set_option linter.unusedSimpArgs false
set_option maxRecDepth 100000
set_option maxHeartbeats 2000000

/-- one part -/
def partL (l : List Nat) (n : Int) : List Nat := if Int.tmod n 5 = 4 then l.take 9 else (l.take 9 ++ List.replicate 9 0).take (1 + (withinI n 8).toNat)
def partsL (ls : List (List Nat)) (n : Int) : List (List Nat) := (ls.take 7).map (partL · n)
theorem partL_le (l : List Nat) (n : Int) : (partL l n).length ≤ 9 := by
  unfold partL
  split
  · simp; omega
  · have h1 := withinI_ge n 8
    have h2 := withinI_lt n 8 (by decide)
    rw [List.length_take]; omega
theorem parts_le (ls : List (List Nat)) (n : Int) : (partsL ls n).length ≤ 7 := by unfold partsL; simp; omega
theorem parts_mem (ls : List (List Nat)) (n : Int) : ∀ l ∈ partsL ls n, l.length ≤ 1048576 := by
  intro l hl
  obtain ⟨x, _, rfl⟩ := List.mem_map.1 hl
  have := partL_le x n
  omega
theorem wpParts (pv : Value) (ls : List (List Nat)) (n : Int) (w : World) (hp : Parts w pv ls) (hn : -9223372036854775808 ≤ n) (hn2 : n ≤ 9223372036854775807) :
    Calls Try.prog 16 #[pv, .int .i64 n] w fun e w' => ∃ v', e = .returned v' ∧ OwnP w' w.heap.size v' (partsL ls n) ∧ Below w.heap.size w w' := by
  obtain ⟨j0, hj, hy0, hy1, hy2⟩ := info_parts uint8_info
  obtain ⟨i0, hi, hz0, hz1, hz2⟩ := info_parts parts_info
  obtain ⟨ao, cap, rfl, hc1, hc2⟩ := hp.shape
  obtain ⟨N, hN⟩ : ∃ N, N = (ls.take 7).length := ⟨_, rfl⟩
  have hN7 : N ≤ 7 := by rw [hN]; simp; omega
  have hNl : N ≤ ls.length := by rw [hN]; simp; omega
  have HN : Hid (ls.length ≤ N ∨ N = 7) := by show _ ∨ _; rw [hN, List.length_take]; omega
  have hNN := Lib.hid hN
  clear hN
  obtain ⟨t, ht⟩ : ∃ t, Int.tmod n 5 = t := ⟨_, rfl⟩
  go_enter Try.func16, Try.ntmps16
  go_wp2
  go_loopw [5, 6] (fun v i w' => ∃ k : Nat, k ≤ N ∧ i = .int .i64 k ∧ Hid (OwnP w' w.heap.size v (partsL (ls.take k) n)) ∧ Below w.heap.size w w') (fun _ i _ => N - (intOf i).toNat)
  case atStart => exact ⟨0, Nat.zero_le _, rfl, Lib.hid (OwnP.nil _ _), belR _⟩
  case round =>
    obtain ⟨k, hk, rfl, hO, hB⟩ := hrel
    by_cases hlt : k < N
    · obtain ⟨b, off, c1, p1, rfl, hc1', hk1, hB1⟩ := hp.getUp hB (k := k) (by omega)
      obtain ⟨ao2, cap2, rfl, _, _⟩ := hB1.shape
      have hws := hB.size
      have HB1 := Lib.hid (hB1.up hB)
      have hlen : Hid ((partsL (ls.take k) n).length ≤ 1048576) := Lib.hid (by have := parts_le (ls.take k) n; omega)
      have hstep : Hid (partsL (ls.take (k + 1)) n = partsL (ls.take k) n ++ [partL p1 n]) := by
        show _ = _
        unfold partsL
        rw [List.take_take, List.take_take, show min 7 (k + 1) = k + 1 by omega, show min 7 k = k by omega, take_succ_get hk1.out, List.map_append]
        rfl
      clear hB1
      go_wp2_with fail
      refine Calls.mono (cut_any _ p1 9 _ HB1.out (by decide)) ?_
      rintro e w2 ⟨v2, rfl, hO2, hb2⟩
      by_cases h4 : t = 4
      · have HP : Hid (partL p1 n = p1.take 9) := by show _ = _; unfold partL; rw [if_pos (by rw [ht, h4])]
        subst h4
        rw [← HP.out] at hO2
        obtain ⟨ao3, cap3, rfl, _, _⟩ := hO2.byt.shape
        go_wp2_with (at_builtin; go_loud (refine wpList_append_row rfl _ _ 25 rfl i0 Try.underlying25 hi hz0 hz1 hz2 w.heap.size _ _ rfl ((hO.out.up hb2).up (belA1 (belR _))) _ _ _ rfl (At.one _ _ _ (by first | rfl | simp)) (own_mono (hO2.up (belA1 (belR _))) hws) hlen.out (by have := hb2.size; first | omega | (simp; omega)) ?_); intro v' w3 hown hgrow)
        go_roundw
        case rel => exact ⟨k + 1, by omega, by go_num, Lib.hid (by rw [hstep.out]; exact hown), belG (belA1 (belT hB hb2)) hgrow (fun g hg => hO.out.ge g hg)⟩
        case measure => simp [intOf]; omega
      · have ht4 : (t != 4) = true := by rw [bne_iff_ne]; exact h4
        obtain ⟨q, hq⟩ : ∃ q : Nat, withinI n 8 = q := ⟨_, (Int.toNat_of_nonneg (withinI_ge n 8)).symm⟩
        have hq8 : q < 8 := by have := withinI_lt n 8 (by decide); omega
        have HP : Hid (partL p1 n = (p1.take 9 ++ List.replicate 9 0).take (q + 1)) := by show _ = _; unfold partL; rw [if_neg (by rw [ht]; exact h4), hq]; congr 1; omega
        have HQ := Lib.hid hq
        obtain ⟨y, hy⟩ : ∃ y, y = p1.take 9 := ⟨_, rfl⟩
        have hyl : y.length ≤ 9 := by rw [hy]; simp; omega
        rw [← hy] at hO2 HP
        clear hq hy h4
        obtain ⟨ao3, cap3, rfl, _, _⟩ := hO2.byt.shape
        go_wp2_with fail
        refine Calls.mono (copy_any _ y _ hO2.byt (by omega)) ?_
        rintro e w3 ⟨v3, rfl, hO3, hb3⟩
        have hb23 := belT hb2 hb3
        go_wp2_with (first
          | (at_builtin; go_loud (refine wpList_append_zeros rfl _ _ 22 3 rfl w2.heap.size 5 j0 (.int .u8 0) 1 1 .i64 .i64 Try.underlying22 Try.underlying3 hj hy0 hy1 hy2 rfl (by decide) zero_one _ _ _ rfl hO3.2 9 rfl (by decide) (by simp [maxLen]; omega) (by omega) hb3.size ?_); intro v4 w4 o4 g4; obtain ⟨g, cap4, rfl, h41, h42, h43, h44⟩ := own_shape o4 (by omega))
          | fail)
        have O4 : Own w4 w2.heap.size (.slice (some ⟨g, 0, none⟩) (y.length + 9) cap4) (y ++ List.replicate 9 0) := by
          refine ⟨?_, ?_⟩
          · intro x hx
            rcases List.mem_append.1 hx with h | h
            · exact hO2.1 x h
            · rw [List.eq_of_mem_replicate h]; decide
          · rw [List.length_append, List.length_replicate, List.map_append, List.map_replicate, ← zeroCells_rep]
            exact o4
        have hb24 : Below w2.heap.size w2 w4 := belG hb3 g4 (fun g hg => hO3.ge g hg)
        have hO5 := O4.take (k := q + 1) (by omega)
        rw [← HP.out] at hO5
        have hb4 := belT hb2 hb24
        have hO6 := hO.out.up hb4
        have hs24 := hb24.size
        have hs2 := hb2.size
        have hqc : q + 1 ≤ cap4 := by omega
        clear o4 O4 g4
        refine Calls.mono (within_any n 8 w4 (by decide) hn hn2) ?_
        rw [HQ.out]
        rintro e w5 ⟨rfl, rfl⟩
        have hqq : (1 : Int) + (q : Int) = ((q + 1 : Nat) : Int) := by omega
        go_wp2_with (at_builtin; go_loud (refine wpList_append_row rfl _ _ 25 rfl i0 Try.underlying25 hi hz0 hz1 hz2 w.heap.size _ _ rfl (hO6.up (belA1 (belR _))) _ _ _ rfl (At.one _ _ _ (by first | rfl | simp)) (own_mono (hO5.up (belA1 (belR _))) (by omega)) hlen.out (by first | omega | (simp; omega)) ?_); intro v' w5 hown hgrow)
        go_roundw
        case rel => exact ⟨k + 1, by omega, by go_num, Lib.hid (by rw [hstep.out]; exact hown), belG (belA1 (belT hB hb4)) hgrow (fun g hg => hO.out.ge g hg)⟩
        case measure => simp [intOf]; omega
    · have e2 : partsL (ls.take k) n = partsL ls n := by
        unfold partsL
        rw [List.take_take]
        have := HN.out
        congr 1
        rcases this with h | h
        · rw [List.take_of_length_le (l := ls) (i := min 7 k) (by omega), List.take_of_length_le (l := ls) (i := 7) (by omega)]
        · rw [show min 7 k = 7 by omega]
      have hO2 : Hid (OwnP wr w.heap.size u5 (partsL ls n)) := by rw [← e2]; exact hO
      have hkn : k = N := by omega
      clear e2
      rcases Nat.lt_or_ge k ls.length with hkl | hkl
      · have hk7 : k = 7 := by have := HN.out; omega
        subst hk7
        clear hkn
        go_wp2
        go_ret
        exact ⟨_, rfl, hO2.out, hB⟩
      · go_wp2
        go_ret
        exact ⟨_, rfl, hO2.out, hB⟩
end Go.Proofs.Ytknodcaknopcnaa
