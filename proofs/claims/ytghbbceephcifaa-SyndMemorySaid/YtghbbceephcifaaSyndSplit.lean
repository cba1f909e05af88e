/- The walk of SyndSplit (chapter 3). True at every input. -/
import Derived.Test.YtghbbceephcifaaSyndForms
import Derived.Test.YtghbbceephcifaaSyndMore
import Derived.RegionCalls
import Derived.Deep.RegionWith
import Derived.Deep.RegionHeld3
import Derived.Deep.DrawnRows
namespace Go.Proofs.Ytghbbceephcifaa
open Go.RowKit
attribute [local go_sem ↓] Go.wp_at_zero Go.wp_at_succ
set_option linter.unusedVariables false
set_option linter.unusedSimpArgs false
set_option maxRecDepth 100000
set_option maxHeartbeats 2000000

theorem Parts.takeI {w : World} {ao : Option Addr} {n cap k : Nat} {ls : List (List Nat)} (h : Parts w (.slice ao n cap) ls) (hk : k ≤ n) : Parts w (.slice ao k cap) (ls.take k) := by
  obtain ⟨ao', cap', cs, e, h1, h2, h0, hA, hl, hB⟩ := h
  cases e
  have e : k = (ls.take k).length := by rw [List.length_take]; omega
  refine ⟨ao, cap, cs.take k, by rw [← e], by omega, by omega, h0, hA.take k, by rw [List.length_take, List.length_take, hl], fun i hi => ?_⟩
  rw [List.length_take] at hi
  obtain ⟨c, hc, hb⟩ := hB i (by omega)
  refine ⟨c, by rw [List.getElem?_take_of_lt (by omega)]; exact hc, ?_⟩
  have e2 : (ls.take k).getD i [] = ls.getD i [] := by simp [List.getD, List.getElem?_take_of_lt (show i < k by omega)]
  rw [e2]; exact hb
theorem Parts.dropI {w : World} {b off n cap k : Nat} {ls : List (List Nat)} (h : Parts w (.slice (some ⟨b, off, none⟩) n cap) ls) (hk : k ≤ n) : Parts w (.slice (some ⟨b, off + k, none⟩) (n - k) (cap - k)) (ls.drop k) := by
  obtain ⟨ao', cap', cs, e, h1, h2, h0, hA, hl, hB⟩ := h
  cases e
  have e : ls.length - k = (ls.drop k).length := by rw [List.length_drop]
  refine ⟨_, cap - k, cs.drop k, by rw [e], by omega, by omega, (fun e => by cases e), hA.drop k, by rw [List.length_drop, List.length_drop, hl], fun i hi => ?_⟩
  rw [List.length_drop] at hi
  obtain ⟨c, hc, hb⟩ := hB (k + i) (by omega)
  refine ⟨c, by rw [List.getElem?_drop]; exact hc, ?_⟩
  have e2 : (ls.drop k).getD i [] = ls.getD (k + i) [] := by simp [List.getD, List.getElem?_drop]
  rw [e2]; exact hb
theorem parts_len (ls : List (List Nat)) (n : Int) (h : Int.tmod n 5 ≠ 4) : ∀ p ∈ partsL ls n, p.length = 1 + (withinI n 8).toNat := by
  intro p hp
  obtain ⟨x, _, rfl⟩ := List.mem_map.1 hp
  have h1 := withinI_ge n 8
  have h2 := withinI_lt n 8 (by decide)
  unfold partL
  rw [if_neg h, List.length_take, List.length_append, List.length_replicate]
  omega
theorem tmod5 (n : Int) : (0 ≤ n → 0 ≤ Int.tmod n 5 ∧ Int.tmod n 5 ≤ n) ∧ (n ≤ 0 → Int.tmod n 5 ≤ 0 ∧ n ≤ Int.tmod n 5) := by
  rcases Int.le_total 0 n with h | h
  · have e := Int.tmod_eq_emod_of_nonneg (b := 5) h
    rw [e]; constructor <;> intro _ <;> omega
  · obtain ⟨m, rfl⟩ : ∃ m, n = -m := ⟨-n, by omega⟩
    have e := Int.tmod_eq_emod_of_nonneg (a := m) (b := 5) (by omega)
    rw [Int.neg_tmod, e]; constructor <;> intro _ <;> omega
theorem tmod5_sub (n : Int) : Int.tmod (n - Int.tmod n 5) 5 = 0 := by
  have h : n - Int.tmod n 5 = 5 * Int.tdiv n 5 := by have := Int.tmod_add_mul_tdiv n 5; omega
  rw [h, Int.mul_tmod_right]
attribute [local irreducible] Go.Calls Byt Own Parts
theorem syndSplit_walk (pv : Value) (ls : List (List Nat)) (n cut : Int) (w : World) (hp : Parts w pv ls) (hn : -9223372036854775808 ≤ n ∧ n ≤ 9223372036854775807) (hcut : -9223372036854775808 ≤ cut ∧ cut ≤ 9223372036854775807) :
    Calls Try.prog 15 #[pv, .int .i64 n, .int .i64 cut] w fun e w' => e = .returned (.bool true) ∧ Below w.heap.size w w' := by
  obtain ⟨N, hN⟩ : ∃ N, n - Int.tmod n 5 = N := ⟨_, rfl⟩
  have hN2 : -9223372036854775808 ≤ N ∧ N ≤ 9223372036854775807 := by have := tmod5 n; omega
  have hNm : Hid (Int.tmod N 5 ≠ 4) := by show _ ≠ _; rw [← hN, tmod5_sub]; decide
  go_enter Try.func15, Try.ntmps15
  go_wp2_with fail
  refine Calls.mono (wpParts pv ls N _ hp hN2.1 hN2.2) ?_
  rintro e w1 ⟨v1, rfl, O1, b1⟩
  obtain ⟨xs, hxs⟩ : ∃ xs, xs = partsL ls N := ⟨_, rfl⟩
  have hx7 : xs.length ≤ 7 := by rw [hxs]; exact parts_le ls N
  have HM : Hid (∀ l ∈ xs, l.length ≤ 1048576) := by rw [hxs]; exact parts_mem ls N
  have HX := Lib.hid hxs
  rw [← hxs] at O1
  clear hxs hp
  have P1 := O1.parts
  obtain ⟨ao1, cap1, rfl, hc1, hc2⟩ := P1.shape
  clear O1
  by_cases h2 : xs.length < 2
  · go_wp2_with fail
    refine Calls.mono (wakes3_any _) ?_
    rintro e w20 ⟨rfl, b20⟩
    go_wp2_with fail
    go_ret
    exact ⟨rfl, belT b1 b20⟩
  · go_wp2_with fail
    refine Calls.mono (within_any cut _ _ (by omega) hcut.1 hcut.2) ?_
    have hw1 := withinI_ge cut ((xs.length : Int) - 1)
    have hw2 := withinI_lt cut ((xs.length : Int) - 1) (by omega)
    obtain ⟨k0, hk⟩ := Int.eq_ofNat_of_zero_le hw1
    rw [hk] at hw1 hw2 ⊢
    have hkl : k0 + 1 < xs.length := by omega
    clear hk hw1 hw2
    rintro e w2 ⟨rfl, rfl⟩
    obtain ⟨b, off, c0, p0, rfl, _, _, _⟩ := P1.get (k := 0) (by omega)
    obtain ⟨k, hk⟩ : ∃ k, k = k0 + 1 := ⟨_, rfl⟩
    have hk1 : (1 : Int) + (k0 : Int) = (k : Int) := by omega
    have hkx : IntKind.i64.wrap ((1 : Int) + (k0 : Int)) = (k : Int) := by rw [IntKind.wrap_i64]; omega
    have hk3 : (0 : Int) ≤ (k : Int) := by omega
    have hk4 : (k : Int) ≤ (xs.length : Int) := by omega
    have hk5 : (k : Int) ≤ (cap1 : Int) := by omega
    have hk6 : (xs.length : Int) ≤ (cap1 : Int) := by omega
    have hkc : ¬ cap1 = k := by omega
    have hkn : k < xs.length := by omega
    have hkp : 0 < k := by omega
    clear hk
    clear hkl
    have PT : Parts w1 (.slice (some ⟨b, off, none⟩) k cap1) (xs.take k) := P1.takeI (by omega)
    have PD : Parts w1 (.slice (some ⟨b, off + k, none⟩) (xs.length - k) (cap1 - k)) (xs.drop k) := P1.dropI (by omega)
    have hal : ∀ p ∈ xs, p.length = 1 + (withinI N 8).toNat := by rw [HX.out]; exact parts_len ls N hNm.out
    have htl : (xs.take k).length = k := by rw [List.length_take]; omega
    have EP : Hid (decide (Y.P xs = Y.addL (Y.P (xs.take k)) (Y.P (xs.drop k))) = true) := by
      show _ = _
      rw [← Y.P_split (fun p hp => hal p (List.mem_of_mem_take hp)) (fun p hp => hal p (List.mem_of_mem_drop hp)) (by omega) (by rw [List.length_drop]; omega), List.take_append_drop]
      exact decide_eq_true rfl
    have EQ : Hid (decide (Y.Q xs = Y.addL (Y.Q (xs.take k)) (Y.sclL (Y.Q (xs.drop k)) (G.pw k))) = true) := by
      have h := Y.Q_split (A := xs.take k) (B := xs.drop k) (fun p hp => hal p (List.mem_of_mem_take hp)) (fun p hp => hal p (List.mem_of_mem_drop hp)) (by omega) (by rw [List.length_drop]; omega) (fun l hl => P1.bytes l (List.mem_of_mem_drop hl))
      rw [htl, List.take_append_drop] at h
      exact decide_eq_true h
    have HT : Hid (∀ l ∈ xs.take k, l.length ≤ 1048576) := Lib.hid fun l hl => HM.out l (List.mem_of_mem_take hl)
    have HD : Hid (∀ l ∈ xs.drop k, l.length ≤ 1048576) := Lib.hid fun l hl => HM.out l (List.mem_of_mem_drop hl)
    have hT7 : Hid ((xs.take k).length ≤ 255) := Lib.hid (by omega)
    have hD7 : Hid ((xs.drop k).length ≤ 255) := Lib.hid (by rw [List.length_drop]; omega)
    have HlP : Hid (∀ ys : List (List Nat), (∀ l ∈ ys, l.length ≤ 1048576) → (Y.P ys).length ≤ 1048576 ∧ (Y.Q ys).length ≤ 1048576) := by
      intro ys hy
      have : ∀ c, (Y.sumL c ys).length ≤ 1048576 := by
        intro c
        unfold Y.sumL
        split
        · rw [Y.row_len]
          cases ys with
          | nil => simp
          | cons a l => exact hy a (by simp)
        · simp
      exact ⟨this _, this _⟩
    have HP1 := Lib.hid P1
    have HPT := Lib.hid PT
    have HPD := Lib.hid PD
    clear P1 PT PD hal htl
    have hB1 : Below w1.heap.size w1 w1 := belR _
    go_wp2_with fail
    go_region_held3 (fun _ => True) (trivial) ((first
      | (go_at_call_of 37 (Value.slice (some ⟨b, off, none⟩) xs.length cap1); refine Calls.mono (synP_any _ xs _ (HP1.out.up (by iterate 8 try (first | assumption | apply belDr | apply belAlloc))) (by omega) HM.out) ?_; rintro e wa ⟨va, rfl, Oa, ba⟩; have hBa : Below w1.heap.size w1 wa := belT (by iterate 8 try (first | assumption | apply belDr | apply belAlloc)) ba)
      | (go_at_call_of 37 (Value.slice (some ⟨b, off, none⟩) k cap1); refine Calls.mono (synP_any _ (xs.take k) _ (HPT.out.up (by iterate 8 try (first | assumption | apply belDr | apply belAlloc))) (by have := hT7.out; omega) HT.out) ?_; rintro e wb ⟨vb, rfl, Ob, bb⟩; have hBb : Below w1.heap.size w1 wb := belT (by iterate 8 try (first | assumption | apply belDr | apply belAlloc)) bb; have hab : Below wa.heap.size wa wb := belT (by iterate 4 try (first | exact belR _ | apply belDr | apply belAlloc)) bb)
      | (go_at_call_of 37 (Value.slice (some ⟨b, off + k, none⟩) (xs.length - k) (cap1 - k)); refine Calls.mono (synP_any _ (xs.drop k) _ (HPD.out.up (by iterate 8 try (first | assumption | apply belDr | apply belAlloc))) (by have := hD7.out; omega) HD.out) ?_; rintro e wc ⟨vc, rfl, Oc, bc⟩; have hBc : Below w1.heap.size w1 wc := belT (by iterate 8 try (first | assumption | apply belDr | apply belAlloc)) bc; have hbc : Below wb.heap.size wb wc := belT (by iterate 4 try (first | exact belR _ | apply belDr | apply belAlloc)) bc; have hac : Below wa.heap.size wa wc := belT hab hbc)
      | (go_at_call_of 39 vb; refine Calls.mono (add_any vb vc _ _ _ (Ob.byt.up (by first | exact hbc | exact belDr hbc)) (by first | exact Oc.byt | exact Oc.byt.drew) (HlP.out _ HT.out).1) ?_; rintro e wd ⟨vd, rfl, Od, bd⟩; have hBd : Below w1.heap.size w1 wd := belT (by iterate 8 try (first | assumption | apply belDr | apply belAlloc)) bd; have had : Below wa.heap.size wa wd := belT (by first | exact hac | exact belDr hac) bd)
      | (go_at_call_of 24 va; refine Calls.mono (same_any va vd _ _ _ (Oa.byt.up (by first | exact had | exact belDr had)) (by first | exact Od.byt | exact Od.byt.drew)) ?_; rw [EP.out]; rintro e we ⟨rfl, de⟩; have hBe : Below w1.heap.size w1 we := belT (by iterate 8 try (first | assumption | apply belDr | apply belAlloc)) (de.below _))
      | (go_at_call_of 38 (Value.slice (some ⟨b, off, none⟩) xs.length cap1); refine Calls.mono (synQ_any _ xs _ (HP1.out.up (by iterate 8 try (first | assumption | apply belDr | apply belAlloc))) (by omega) HM.out) ?_; rintro e wf ⟨vf, rfl, Of, bf⟩; have hBf : Below w1.heap.size w1 wf := belT (by iterate 8 try (first | assumption | apply belDr | apply belAlloc)) bf)
      | (go_at_call_of 38 (Value.slice (some ⟨b, off, none⟩) k cap1); refine Calls.mono (synQ_any _ (xs.take k) _ (HPT.out.up (by iterate 8 try (first | assumption | apply belDr | apply belAlloc))) hT7.out HT.out) ?_; rintro e wg ⟨vg, rfl, Og, bg⟩; have hBg : Below w1.heap.size w1 wg := belT (by iterate 8 try (first | assumption | apply belDr | apply belAlloc)) bg; have hfg : Below wf.heap.size wf wg := belT (by iterate 4 try (first | exact belR _ | apply belDr | apply belAlloc)) bg)
      | (go_at_call_of 38 (Value.slice (some ⟨b, off + k, none⟩) (xs.length - k) (cap1 - k)); refine Calls.mono (synQ_any _ (xs.drop k) _ (HPD.out.up (by iterate 8 try (first | assumption | apply belDr | apply belAlloc))) hD7.out HD.out) ?_; rintro e wh ⟨vh, rfl, Oh, bh⟩; have hBh : Below w1.heap.size w1 wh := belT (by iterate 8 try (first | assumption | apply belDr | apply belAlloc)) bh; have hgh : Below wg.heap.size wg wh := belT (by iterate 4 try (first | exact belR _ | apply belDr | apply belAlloc)) bh; have hfh : Below wf.heap.size wf wh := belT hfg hgh)
      | (go_at_call 35; refine Calls.mono (refpow_nat k _) ?_; rintro e wx ⟨rfl, rfl⟩)
      | (go_at_call 40; refine Calls.mono (scale_any vh _ (G.pw k) _ (by first | exact Oh.byt | exact Oh.byt.drew) (G.pw_lt k) (HlP.out _ HD.out).2) ?_; rintro e wi ⟨vi, rfl, Oi, bi⟩; have hBi : Below w1.heap.size w1 wi := belT (by iterate 8 try (first | assumption | apply belDr | apply belAlloc)) bi; have hgi : Below wg.heap.size wg wi := belT (by first | exact hgh | exact belDr hgh) bi; have hfi : Below wf.heap.size wf wi := belT hfg hgi)
      | (go_at_call_of 39 vg; refine Calls.mono (add_any vg vi _ _ _ (Og.byt.up (by first | exact hgi | exact belDr hgi)) (by first | exact Oi.byt | exact Oi.byt.drew) (HlP.out _ HT.out).2) ?_; rintro e wj ⟨vj, rfl, Oj, bj⟩; have hBj : Below w1.heap.size w1 wj := belT (by iterate 8 try (first | assumption | apply belDr | apply belAlloc)) bj; have hfj : Below wf.heap.size wf wj := belT (by first | exact hfi | exact belDr hfi) bj)
      | (go_at_call_of 24 vf; refine Calls.mono (same_any vf vj _ _ _ (Of.byt.up (by first | exact hfj | exact belDr hfj)) (by first | exact Oj.byt | exact Oj.byt.drew)) ?_; rw [EQ.out]; rintro e wk ⟨rfl, dk⟩; have hBk : Below w1.heap.size w1 wk := belT (by iterate 8 try (first | assumption | apply belDr | apply belAlloc)) (dk.below _))
      | (go_at_call 41; refine Calls.mono (wakes3_any _) ?_; rintro e wl ⟨rfl, bl⟩; have hBl : Below w1.heap.size w1 wl := belT (by iterate 8 try (first | assumption | apply belDr | apply belAlloc)) bl)))
    all_goals
      go_wp2
      go_ret
      exact ⟨rfl, belT b1 (by iterate 8 try (first | assumption | apply belDr | apply belAlloc))⟩
theorem syndSplit_law (W : World) (v0 : Value) (l : List (List Nat)) (hl : Parts W v0 l) (_ : l.length * 24 ≤ 140737488351232) (n : Int) (hn : -9223372036854775808 ≤ n ∧ n ≤ 9223372036854775807) (cut : Int) (hcut : -9223372036854775808 ≤ cut ∧ cut ≤ 9223372036854775807) :
    Calls Try.prog 15 #[v0, .int .i64 n, .int .i64 cut] W fun e W' => e = .returned (.bool true) ∧ Below W.heap.size W W' :=
  syndSplit_walk v0 l n cut W hl hn hcut
end Go.Proofs.Ytghbbceephcifaa
