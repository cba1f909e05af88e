/- The walk of SyndTells (chapter 3). True at every input. -/
import Derived.Test.YtghbbceephcifaaSyndForms
import Derived.Test.YtghbbceephcifaaSyndMore
import Derived.Deep.RegionHeld3
import Derived.Deep.CutRange
import Derived.Deep.DrawnRows
namespace Go.Proofs.Ytghbbceephcifaa
open Go.RowKit
attribute [local go_sem ↓] Go.wp_at_zero Go.wp_at_succ
set_option linter.unusedVariables false
set_option linter.unusedSimpArgs false
set_option maxRecDepth 100000
set_option maxHeartbeats 4000000

theorem syndTells_walk (pv : Value) (ls : List (List Nat)) (n : Int) (f : Nat) (w : World) (hp : Parts w pv ls) (hn : -9223372036854775808 ≤ n ∧ n ≤ 9223372036854775807) (hf : f < 256) :
    Calls Try.prog 14 #[pv, .int .i64 n, .int .u8 f] w fun e w' => e = .returned (.bool true) ∧ Below w.heap.size w w' := by
  go_enter Try.func14, Try.ntmps14
  go_wp2_with fail
  refine Calls.mono (wpParts pv ls n _ hp hn.1 hn.2) ?_
  rintro e w1 ⟨v1, rfl, O1, b1⟩
  obtain ⟨xs, hxs⟩ : ∃ xs, xs = partsL ls n := ⟨_, rfl⟩
  have hx7 : xs.length ≤ 7 := by rw [hxs]; exact parts_le ls n
  have HM : Hid (∀ l ∈ xs, l.length ≤ 1048576) := by rw [hxs]; exact parts_mem ls n
  rw [← hxs] at O1
  clear hxs hp
  have P1 := O1.parts
  obtain ⟨ao1, cap1, rfl, hc1, hc2⟩ := P1.shape
  clear O1
  go_wp2_with fail
  refine Calls.mono (synP_any _ xs _ P1 (by omega) HM.out) ?_
  rintro e w2 ⟨v2, rfl, O2, b2⟩
  go_wp2_with fail
  refine Calls.mono (refP_any _ xs _ (P1.up b2) (by omega) HM.out) ?_
  rintro e w3 ⟨v3, rfl, O3, b3⟩
  go_wp2_with fail
  refine Calls.mono (same_any _ _ _ _ _ (O2.byt.up b3) O3.byt) ?_
  rw [decide_eq_true rfl]
  rintro e w4 ⟨rfl, d4⟩
  have c4 : Below w1.heap.size w1 w4 := belT (belT b2 b3) (d4.below _)
  clear O2 O3 b2 b3 d4
  go_wp2_with fail
  refine Calls.mono (synQ_any _ xs _ (P1.up c4) (by omega) HM.out) ?_
  rintro e w5 ⟨v5, rfl, O5, b5⟩
  go_wp2_with fail
  refine Calls.mono (refQ_any _ xs _ (P1.up (belT c4 b5)) (by omega) HM.out) ?_
  rintro e w6 ⟨v6, rfl, O6, b6⟩
  go_wp2_with fail
  refine Calls.mono (same_any _ _ _ _ _ (O5.byt.up b6) O6.byt) ?_
  rw [decide_eq_true rfl]
  rintro e w7 ⟨rfl, d7⟩
  have c7 : Below w1.heap.size w1 w7 := belT (belT c4 (belT b5 b6)) (d7.below _)
  clear O5 O6 b5 b6 d7 c4
  go_wp2_with fail
  refine Calls.mono (synP_any _ [] _ (Parts.nil _) (by simp) (by simp)) ?_
  rintro e w8 ⟨v8, rfl, O8, b8⟩
  obtain ⟨ao8, cap8, rfl, _, _⟩ := O8.byt.shapeN (n := 0) rfl
  have c8 := belT c7 b8
  clear O8 b8 c7
  go_wp2_with fail
  refine Calls.mono (synQ_any _ [] _ (Parts.nil _) (by simp) (by simp)) ?_
  rintro e w9 ⟨v9, rfl, O9, b9⟩
  obtain ⟨ao9, cap9, rfl, _, _⟩ := O9.byt.shapeN (n := 0) rfl
  have c9 := belT c8 b9
  clear O9 b9 c8
  go_wp2_with fail
  go_loopw [8] (fun i w' => ∃ k : Nat, 1 ≤ k ∧ k ≤ 8 ∧ i = .int .i64 k ∧ Below w1.heap.size w1 w') (fun i _ => 8 - (intOf i).toNat)
  case atStart => exact ⟨1, by decide, by decide, rfl, c9⟩
  case round =>
    obtain ⟨k, hk1, hk, rfl, hB⟩ := hrel
    by_cases hlt : k < xs.length
    · obtain ⟨b, off, v, p, rfl, hc1x, hp, hby⟩ := P1.get (k := k) hlt
      obtain ⟨j, hj⟩ : ∃ j, k = j + 1 := ⟨k - 1, by omega⟩
      have HJ := Lib.hid hj
      obtain ⟨b', off', u, q, e1, hc2x, hq, hby2⟩ := P1.get (k := j) (by omega)
      cases e1
      obtain ⟨aop, capp, rfl, _, _⟩ := hby.shape
      obtain ⟨aoq, capq, rfl, _, _⟩ := hby2.shape
      have hjx : IntKind.i64.wrap (j : Int) = (j : Int) := by rw [IntKind.wrap_i64]; omega
      have hjw : IntKind.i64.wrap ((k : Int) - 1) = (j : Int) := by rw [IntKind.wrap_i64]; omega
      have HP := Lib.hid hby
      have HQ := Lib.hid hby2
      have hql : q.length ≤ 1048576 := HM.out q (List.mem_of_getElem? hq.out)
      have j1 : (0 : Int) ≤ (j : Int) := by omega
      have j2 : (j : Int) < (xs.length : Int) := by omega
      have j3 : (k : Int) < (xs.length : Int) := by omega
      have j4 : (0 : Int) ≤ (k : Int) := by omega
      clear hj
      clear hby hby2
      have HC : Hid (∀ W, Below w1.heap.size w1 W → W.cell? ⟨b, off + j, none⟩ = some (.slice aoq q.length capq) ∧ W.cell? ⟨b, off + k, none⟩ = some (.slice aop p.length capp)) := by
        intro W hW
        rw [hW.cell (World.block_lt_of_cell? _ _ hc1x), hW.cell (World.block_lt_of_cell? _ _ hc2x)]
        exact ⟨hc2x, hc1x⟩
      have HQP : Hid (∀ l ∈ [q, p], l.length ≤ 1048576) := by intro l hl; simp at hl; rcases hl with rfl | rfl; exact HM.out _ (List.mem_of_getElem? hq.out); exact HM.out _ (List.mem_of_getElem? hp.out)
      have HE : Hid (decide (Y.addL q p = Y.P [q, p]) = true) := by show _ = _; rw [Y.P_two HQ.out.bytes HP.out.bytes]; exact decide_eq_true rfl
      go_wp2_with fail
      go_cut [68] from 40 to 68 (fun s w' => s = .bool false ∧ Below w1.heap.size w1 w')
      case first =>
        go_region_held3 (fun w' => w'.cell? ⟨b, off + j, none⟩ = some (.slice aoq q.length capq) ∧ w'.cell? ⟨b, off + k, none⟩ = some (.slice aop p.length capp))
          ((refine HC.out _ ?_; iterate 8 try (first | assumption | apply belDr | apply belAlloc)))
          (first
            | (go_at_call 39; go_loud (refine Calls.mono (add_any _ _ q p _ (HQ.out.up (by iterate 8 try (first | assumption | apply belDr | apply belAlloc))) (HP.out.up (by iterate 8 try (first | assumption | apply belDr | apply belAlloc))) hql) ?_); rintro e wa ⟨va, rfl, Oa, ba⟩; have hBa : Below w1.heap.size w1 wa := belT (by iterate 8 try (first | assumption | apply belDr | apply belAlloc)) ba)
            | (go_at_call 43; go_loud (refine Calls.mono (refP_any _ [q, p] _ (by first | exact Parts.lit2 (by first | rfl | simp) (HQ.out.up (by iterate 8 try (first | assumption | apply belDr | apply belAlloc))) (HP.out.up (by iterate 8 try (first | assumption | apply belDr | apply belAlloc))) | exact (Parts.lit2 (by first | rfl | simp) (HQ.out.up (by iterate 8 try (first | assumption | apply belDr | apply belAlloc))) (HP.out.up (by iterate 8 try (first | assumption | apply belDr | apply belAlloc)))).drew | exact Parts.below ((Parts.lit2 (by first | rfl | simp) (HQ.out.up (by iterate 8 try (first | assumption | apply belDr | apply belAlloc))) (HP.out.up (by iterate 8 try (first | assumption | apply belDr | apply belAlloc)))).drew) ba (Nat.le_refl _)) (by simp) HQP.out) ?_); rintro e wb ⟨vb, rfl, Ob, bb⟩; have hab : Below wa.heap.size wa wb := belT (by iterate 4 try (first | exact belR _ | apply belDr | apply belAlloc)) bb; have hBb : Below w1.heap.size w1 wb := belT (by iterate 8 try (first | assumption | apply belDr | apply belAlloc)) bb)
            | (go_at_call 24; go_loud (refine Calls.mono (same_any _ _ (Y.addL q p) (Y.P [q, p]) _ (by first | exact Oa.byt.up hab | exact (Oa.byt.up hab).drew) (by first | exact Ob.byt | exact Ob.byt.drew)) ?_); rw [HE.out]; rintro e wc ⟨rfl, dc⟩; have hBc : Below w1.heap.size w1 wc := belT (by iterate 8 try (first | assumption | apply belDr | apply belAlloc)) (dc.below _)))
        all_goals (go_wp2; go_meet; case rel => exact ⟨rfl, hBc⟩)
      obtain ⟨rfl, hBc⟩ := hcut
      go_wp2
      go_roundw
      case rel => exact ⟨k + 1, by omega, by omega, by go_num, hBc⟩
      case measure => simp [intOf]; omega
    · go_wp2_with fail
      go_loopw [71] (fun i w' => ∃ k : Nat, k ≤ xs.length ∧ i = .int .i64 k ∧ Below w1.heap.size w1 w') (fun i _ => xs.length - (intOf i).toNat)
      case atStart => exact ⟨0, Nat.zero_le _, rfl, hB⟩
      case round =>
        clear hlt hk hk1 hB
        obtain ⟨k, hk, rfl, hB⟩ := hrel
        by_cases hlt : k < xs.length
        · obtain ⟨b, off, v, p, rfl, hcl, hp, hby⟩ := P1.getUp hB (k := k) hlt
          obtain ⟨m, hm⟩ : ∃ m, p.length = m := ⟨_, rfl⟩
          obtain ⟨aop, capp, rfl, _, _⟩ := hby.shapeN hm
          have hml : m ≤ 1048576 := by rw [← hm]; exact HM.out p (List.mem_of_getElem? hp.out)
          have HP := Lib.hid hby
          have HL := Lib.hid hm
          clear hby hm
          go_wp2_with fail
          refine Calls.mono (copy_any _ p _ (HP.out.up hB) (by rw [HL.out]; omega)) ?_
          rintro e wa ⟨va, rfl, Oa, ba⟩
          have hBa := belT hB ba
          have HPw := HP.out.up hBa
          obtain ⟨aoa, capa, rfl, _, _⟩ := Oa.byt.shapeN HL.out
          have HO := Lib.hid Oa
          clear Oa HPw
          go_wp2_with fail
          go_loopw [79] (fun i w' => ∃ j : Nat, j ≤ m ∧ i = .int .i64 j ∧ Hid (Own w' wr.heap.size (.slice aoa m capa) (Y.part p f j)) ∧ Below wr.heap.size wr w') (fun i _ => m - (intOf i).toNat)
          case atStart => exact ⟨0, Nat.zero_le _, rfl, by rw [Y.part_zero]; exact HO, ba⟩
          case round =>
            obtain ⟨j, hj, rfl, hOj, hBj⟩ := hrel
            by_cases hlj : j < m
            · obtain ⟨x, hx⟩ : ∃ x, p[j]? = some x := ⟨_, getD_get 0 (by rw [HL.out]; exact hlj)⟩
              obtain ⟨g, capg, e0, hg1, hg2, hg3, hg4⟩ := own_shape hOj.out.2 (by rw [Y.part_len, HL.out]; omega)
              cases e0
              obtain ⟨hx8, hxc, hxf⟩ := hOj.out.cells (Y.part_get (f := f) hx)
              have hgx := G.gm_lt f hx8
              have HST := Lib.hid (hOj.out.store j (G.gm x f) hgx)
              have HS : Hid ((Y.part p f j).set j (G.gm x f) = Y.part p f (j + 1)) := Y.part_set hx
              clear hx
              go_wp2_with fail
              refine Calls.mono (refmul_any x f _ hx8 hf) ?_
              rintro e wd ⟨rfl, rfl⟩
              go_wp2
              go_roundw
              case rel => exact ⟨j + 1, by omega, by go_num, Lib.hid (by rw [← HS.out]; exact HST.out.1), hBj.grown HST.out.2 hBj.size (fun k hk => by cases hk; exact hg1)⟩
              case measure => simp [intOf]; omega
            · have e1 : Y.part p f j = Y.sclL p f := Y.part_end p f j (by rw [HL.out]; omega)
              rw [e1] at hOj
              clear e1
              have hBx := belT hB hBj
              go_wp2_with fail
              refine Calls.mono (scale_any _ p f _ (HP.out.up hBx) hf (by rw [HL.out]; exact hml)) ?_
              rintro e wd ⟨vd, rfl, Od, bd⟩
              go_wp2_with fail
              refine Calls.mono (same_any _ _ _ _ _ Od.byt (hOj.out.byt.up bd)) ?_
              rw [decide_eq_true rfl]
              rintro e we ⟨rfl, de⟩
              go_wp2
              go_roundw
              case rel => exact ⟨k + 1, by omega, by go_num, belT hBx (belT bd (de.below _))⟩
              case measure => simp [intOf]; omega
        · go_wp2_with fail
          refine Calls.mono (wakes3_any _) ?_
          rintro e w20 ⟨rfl, b20⟩
          go_wp2_with fail
          go_ret
          exact ⟨rfl, belT b1 (belT hB b20)⟩
theorem syndTells_law (W : World) (v0 : Value) (l : List (List Nat)) (hl : Parts W v0 l) (_ : l.length * 24 ≤ 140737488351232) (n : Int) (hn : -9223372036854775808 ≤ n ∧ n ≤ 9223372036854775807) (f : Int) (hf : 0 ≤ f ∧ f ≤ 255) :
    Calls Try.prog 14 #[v0, .int .i64 n, .int .u8 f] W fun e W' => e = .returned (.bool true) ∧ Below W.heap.size W W' := by
  obtain ⟨m, rfl⟩ := Int.eq_ofNat_of_zero_le hf.1
  exact syndTells_walk v0 l n m W hl hn (by omega)
end Go.Proofs.Ytghbbceephcifaa
