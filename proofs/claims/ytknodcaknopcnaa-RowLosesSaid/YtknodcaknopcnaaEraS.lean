/- The walk of erase.Solve: all parts, those that are missing as P and Q ask; or that they can't be told. -/
import Derived.Test.YtknodcaknopcnaaEraF
import Derived.Test.YtknodcaknopcnaaFr
import Derived.Deep.RegionHeld3
import Derived.Deep.DrawnRows
namespace Go.Proofs.Ytknodcaknopcnaa
open Go.RowKit
set_option linter.unusedVariables false
set_option linter.unusedSimpArgs false
set_option maxRecDepth 100000
set_option maxHeartbeats 2000000

def SolveP (w : World) (n : Nat) (p q : List Nat) (ls : List (List Nat)) (e : Ending) (w' : World) : Prop :=
  ((Y.solveB (n : Int) p q ls = true ∧ ∃ v', e = .returned (.tuple #[v', .bool true]) ∧ RowB w' w.heap.size v' (Y.solveL n p q ls)) ∨ (Y.solveB (n : Int) p q ls = false ∧ e = .returned (.tuple #[.slice none 0 0, .bool false]))) ∧ Below w.heap.size w w'
theorem OwnN.shape {w : World} {base : Nat} {v : Value} {l : List Int} (h : OwnN w base v l) (h0 : 0 < l.length) : ∃ g cap, v = .slice (some ⟨g, 0, none⟩) l.length cap ∧ base ≤ g ∧ g < w.heap.size ∧ l.length ≤ cap ∧ cap ≤ 9223372036854775807 := own_shape h.2 h0
theorem OwnN.at {w : World} {base g n cap : Nat} {l : List Int} (h : OwnN w base (.slice (some ⟨g, 0, none⟩) n cap) l) {k : Nat} {x : Int} (hx : l[k]? = some x) : w.cell? ⟨g, k, none⟩ = some (.int .i64 x) := by
  have := h.2.cells (g := g) rfl k (i64v x) (by rw [List.getElem?_map, hx]; rfl)
  rwa [Addr.add_mid, Nat.zero_add] at this
theorem Own.setAt {w : World} {base g o : Nat} {u v : Value} {l : List Nat} (h : Own w base v l) (hg : g < base) : Own (w.setCell ⟨g, o, none⟩ u) base v l :=
  h.fr (Fr.cell _ _) (fun b hb e => by have := h.ge b hb; have e' : b = g := e; omega)
theorem solve_len (n : Nat) (p q : List Nat) (ls : List (List Nat)) : (Y.solveL n p q ls).length = ls.length := by
  unfold Y.solveL
  match Y.missL ls with
  | [] => simp [Y.solveAt]
  | [j] =>
    show (if 0 < p.length then (ls.map (Y.fz n)).set j _ else (ls.map (Y.fz n)).set j _).length = _
    split <;> simp
  | [j, k] => simp [Y.solveAt]
  | j :: k :: m :: t => simp [Y.solveAt]
theorem missI_len (ls : List (List Nat)) : (missI ls).length = (Y.missL ls).length := by simp [missI]
theorem fits_le {n : Nat} {ls : List (List Nat)} (h : Y.fitsB (n : Int) ls = true) : ∀ r ∈ ls, r.length = 0 ∨ r.length = n := by
  intro r hr
  have := List.all_eq_true.1 h r hr
  rw [decide_eq_true_iff] at this
  omega
theorem no1 {n : Nat} {p q : List Nat} {ls : List (List Nat)} (h : ¬ (1 ≤ (n : Int) ∧ 1 ≤ ls.length ∧ ls.length ≤ 8)) : Y.solveB (n : Int) p q ls = false := by
  unfold Y.solveB; rw [decide_eq_false h]; rfl
theorem no2 {n : Nat} {p q : List Nat} {ls : List (List Nat)} (h : Y.fitsB (n : Int) ls = false) : Y.solveB (n : Int) p q ls = false := by
  unfold Y.solveB; rw [h]; simp
theorem no3 {n : Nat} {p q : List Nat} {ls : List (List Nat)} (h : Y.fitsB (n : Int) [p, q] = false) : Y.solveB (n : Int) p q ls = false := by
  unfold Y.solveB; rw [h]; simp
theorem no4 {n : Nat} {p q : List Nat} {ls : List (List Nat)} (h : ¬ (Y.missL ls).length + (Y.missL [p, q]).length ≤ 2) : Y.solveB (n : Int) p q ls = false := by
  unfold Y.solveB; rw [decide_eq_false h]; simp
theorem yes4 {n : Nat} {p q : List Nat} {ls : List (List Nat)} (h1 : 1 ≤ (n : Int) ∧ 1 ≤ ls.length ∧ ls.length ≤ 8) (h2 : Y.fitsB (n : Int) ls = true) (h3 : Y.fitsB (n : Int) [p, q] = true) (h : (Y.missL ls).length + (Y.missL [p, q]).length ≤ 2) : Y.solveB (n : Int) p q ls = true := by
  unfold Y.solveB; rw [decide_eq_true h, decide_eq_true h1, h2, h3]; rfl
theorem miss_shape {ls : List (List Nat)} {p q : List Nat} (h : (Y.missL ls).length + (Y.missL [p, q]).length ≤ 2) :
    (Y.missL ls = [] ∨ (∃ j, Y.missL ls = [j] ∧ j < ls.length ∧ (p = [] → q ≠ [])) ∨ ∃ j k, Y.missL ls = [j, k] ∧ j < ls.length ∧ k < ls.length) := by
  have hm := @Y.miss_mem ls
  match e : Y.missL ls with
  | [] => exact .inl rfl
  | [j] =>
    refine .inr (.inl ⟨j, rfl, (hm.1 (by rw [e]; simp)).1, fun hp hq => ?_⟩)
    subst hp hq
    rw [e] at h
    have : (Y.missL [[], []]).length = 2 := rfl
    rw [this] at h
    simp at h
  | [j, k] => exact .inr (.inr ⟨j, k, rfl, (hm.1 (by rw [e]; simp)).1, (hm.1 (by rw [e]; simp)).1⟩)
  | j :: k :: m :: t => rw [e] at h; simp at h; omega
theorem row_mono {w : World} {base base' n size : Nat} {e : TypeId} {v : Value} {xs : List Value} (h : w.ownsRow base e size v n xs) (hb : base' ≤ base) : w.ownsRow base' e size v n xs := by
  refine ⟨h.1, ?_⟩
  rcases h.2 with h2 | ⟨g, cap, cur, rfl, h3, r⟩
  · exact .inl h2
  · exact .inr ⟨g, cap, cur, rfl, Nat.le_trans hb h3, r⟩
theorem RowB.baseLe {w : World} {base base' : Nat} {v : Value} {ls : List (List Nat)} (h : RowB w base v ls) (hb : base' ≤ base) : RowB w base' v ls := by
  obtain ⟨cs, h1, h2⟩ := h
  exact ⟨cs, row_mono h1 hb, h2⟩
attribute [local irreducible] Go.Calls Byt Own Parts RowB OwnN
theorem solve_any (n : Nat) (pv qv lv : Value) (p q : List Nat) (ls : List (List Nat)) (w : World) (hp : Byt w pv p) (hq : Byt w qv q) (hl : Parts w lv ls) (hn : n ≤ 100000) (hls : ls.length ≤ 1000) :
    Calls Try.prog 10 #[.int .i64 (n : Int), pv, qv, lv] w (SolveP w n p q ls) := by
  have HP := Lib.hid hp
  have HQ := Lib.hid hq
  have HL := Lib.hid hl
  obtain ⟨m, hm⟩ : ∃ m, m = ls.length := ⟨_, rfl⟩
  obtain ⟨al, cl, rfl, hl1, hl2⟩ := hl.shape
  rw [← hm] at HL hl1 ⊢
  have HM := Lib.hid hm
  have HLS := Lib.hid hls
  obtain ⟨ap, cp, rfl, hp1, hp2⟩ := hp.shape
  obtain ⟨aq, cq, rfl, hq1, hq2⟩ := hq.shape
  obtain ⟨np, hnp⟩ : ∃ np, np = p.length := ⟨_, rfl⟩
  rw [← hnp] at HP hp1 ⊢
  obtain ⟨nq, hnq⟩ : ∃ nq, nq = q.length := ⟨_, rfl⟩
  rw [← hnq] at HQ hq1 ⊢
  have HNP := Lib.hid hnp
  have HNQ := Lib.hid hnq
  have HN := Lib.hid hn
  clear hp hq hl hm hls hnp hnq hn hl1 hp1 hq1
  go_enter Try.func10, Try.ntmps10
  go_wp2_with fail
  refine Calls.mono (missing_any _ ls _ HL.out (by have := HLS.out; omega)) ?_
  rintro e w1 ⟨gv, rfl, OG, b1⟩
  by_cases c1 : 1 ≤ (n : Int)
  · have k1 : decide ((n : Int) < 1) = false := by rw [decide_eq_false_iff_not]; omega
    have k1p : ((n : Int) < 1) = False := by rw [eq_iff_iff]; exact ⟨fun h => by omega, fun h => h.elim⟩
    by_cases c2 : 1 ≤ m
    · have k2 : decide ((m : Int) < 1) = false := by rw [decide_eq_false_iff_not]; omega
      have k2p : ((m : Int) < 1) = False := by rw [eq_iff_iff]; exact ⟨fun h => by omega, fun h => h.elim⟩
      by_cases c3 : m ≤ 8
      · have k3 : decide ((8 : Int) < (m : Int)) = false := by rw [decide_eq_false_iff_not]; omega
        have k3p : ((8 : Int) < (m : Int)) = False := by rw [eq_iff_iff]; exact ⟨fun h => by omega, fun h => h.elim⟩
        have HC := Lib.hid (show 1 ≤ (n : Int) ∧ 1 ≤ m ∧ m ≤ 8 from ⟨c1, c2, c3⟩)
        clear c1 c2 c3
        go_wp2_with fail
        refine Calls.mono (fits_any (n : Int) _ ls _ (HL.out.up b1)) ?_
        cases hf : Y.fitsB (n : Int) ls with
        | false =>
          rintro e w2 ⟨rfl, b2⟩
          have HF := Lib.hid hf
          clear hf
          go_wp2
          go_ret2
          exact ⟨.inr ⟨no2 HF.out, rfl⟩, belT b1 b2⟩
        | true =>
          rintro e w2 ⟨rfl, b2⟩
          have HF := Lib.hid hf
          clear hf
          have B2 := belT b1 b2
          go_wp2_with fail
          refine Calls.mono (fits_any (n : Int) _ [p, q] _ (Parts.lit2 rfl (HP.out.up B2) (HQ.out.up B2))) ?_
          cases hf2 : Y.fitsB (n : Int) [p, q] with
          | false =>
            rintro e w3 ⟨rfl, b3⟩
            have HF2 := Lib.hid hf2
            clear hf2
            go_wp2
            go_ret2
            exact ⟨.inr ⟨no3 HF2.out, rfl⟩, belT B2 (belT (belA1 (belR _)) b3)⟩
          | true =>
            rintro e w3 ⟨rfl, b3⟩
            have HF2 := Lib.hid hf2
            clear hf2
            have B3 := belT B2 (belT (belA1 (belR _)) b3)
            have OG3 := Lib.hid (OG.up (belT b2 (belT (belA1 (belR _)) b3)))
            obtain ⟨ag, cg, rfl, hg1, hg2⟩ := OG.ints.shapeI
            obtain ⟨ng, hng⟩ : ∃ ng, ng = (Y.missL ls).length := ⟨_, rfl⟩
            rw [missI_len, ← hng] at OG3 hg1 ⊢
            have HNG := Lib.hid hng
            clear OG b2 b3 hng
            go_wp2_with fail
            refine Calls.mono (missing_any _ [p, q] _ (Parts.lit2 rfl (HP.out.up B3) (HQ.out.up B3)) (by simp)) ?_
            rintro e w4 ⟨hv, rfl, OH, b4⟩
            obtain ⟨ah, ch, rfl, hh1, hh2⟩ := OH.ints.shapeI
            obtain ⟨nh, hnh⟩ : ∃ nh, nh = (Y.missL [p, q]).length := ⟨_, rfl⟩
            rw [missI_len, ← hnh] at hh1 ⊢
            have HNH := Lib.hid hnh
            have OG4 := Lib.hid (OG3.out.up (belT (belA1 (belR _)) b4))
            have B4 := belT B3 (belT (belA1 (belR _)) b4)
            have w48 : Hid (ng ≤ 1000 ∧ nh ≤ 2) := by
              refine ⟨?_, ?_⟩
              · have := missA_len ls ls.length; rw [missA_end, missI_len] at this; have := HLS.out; have := HNG.out; omega
              · have := missA_len [p, q] 2; rw [show missA [p, q] 2 = missI [p, q] from rfl, missI_len] at this; have := HNH.out; omega
            obtain ⟨w48a, w48b⟩ := w48.out
            clear OH b4 hnh OG3 B3 B2
            by_cases c4 : ng + nh ≤ 2
            · have k4 : decide ((2 : Int) < (ng : Int) + (nh : Int)) = false := by rw [decide_eq_false_iff_not]; omega
              have k4p : ((2 : Int) < (ng : Int) + (nh : Int)) = False := by rw [eq_iff_iff]; exact ⟨fun h => by omega, fun h => h.elim⟩
              have HC4 := Lib.hid (show (Y.missL ls).length + (Y.missL [p, q]).length ≤ 2 by rw [← HNG.out, ← HNH.out]; exact c4)
              have HOK := Lib.hid (yes4 (by have := HC.out; rw [HM.out] at this; exact this) HF.out HF2.out HC4.out)
              clear c4
              have hle : ∀ r ∈ ls, r.length ≤ n := fun r hr => by have := fits_le HF.out r hr; omega
              have hpn : np = 0 ∨ np = n := by have := fits_le HF2.out p (by simp); rw [← HNP.out] at this; exact this
              have hqn : nq = 0 ∨ nq = n := by have := fits_le HF2.out q (by simp); rw [← HNQ.out] at this; exact this
              have HPN := Lib.hid hpn
              have HQN := Lib.hid hqn
              have HLE := Lib.hid hle
              clear hpn hqn hle
              go_wp2_with fail
              refine Calls.mono (filled_any n _ ls _ (HL.out.up B4) (by have := HLS.out; omega) HN.out HLE.out) ?_
              rintro e w5 ⟨ov, rfl, OO, b5⟩
              have hOL : (ls.map (Y.fz n)).length = m := by rw [List.length_map]; exact HM.out.symm
              obtain ⟨go, co, rfl, hgo4, hgo5, hco1, hco2⟩ := OO.toB.shape (by rw [hOL]; have := HC.out; omega)
              rw [hOL] at hco1 ⊢
              have OB : Hid (RowB w5 w4.heap.size (.slice (some ⟨go, 0, none⟩) m co) (ls.map (Y.fz n))) := by have := OO.toB; rw [hOL] at this; exact this
              have HOL := Lib.hid hOL
              have hout : ∀ r ∈ ls.map (Y.fz n), r.length ≤ 100000 := by
                intro r hr
                obtain ⟨p', hp', rfl⟩ := List.mem_map.1 hr
                rw [Y.fz_len (fits_le HF.out p' hp')]
                exact HN.out
              have HOUT := Lib.hid hout
              have B5 := belT B4 b5
              clear OO hOL hout
              have B45 := Lib.hid b5
              have hww : w.heap.size ≤ w4.heap.size := B4.size
              rcases miss_shape HC4.out with hm0 | ⟨j, hm1, hj, hpq⟩ | ⟨j, k, hm2, hj, hk⟩
              · have e0 : ng = 0 := by rw [HNG.out, hm0]; rfl
                subst e0
                have HM0 := Lib.hid hm0
                clear hm0
                go_wp2
                go_ret2
                refine ⟨.inl ⟨HOK.out, _, rfl, ?_⟩, B5⟩
                unfold Y.solveL
                rw [HM0.out]
                exact OB.out.baseLe hww
              · have e1 : ng = 1 := by rw [HNG.out, hm1]; rfl
                subst e1
                have HM1 := Lib.hid hm1
                have OGx := Lib.hid (OG4.out.up b5)
                obtain ⟨g1, c1', eg, hg1a, hg1b, _⟩ := OG4.out.shape (by rw [missI_len, HM1.out]; simp)
                rw [show (missI ls).length = 1 by rw [missI_len, HM1.out]; rfl] at eg
                cases eg
                have hmI : missI ls = [(j : Int)] := by unfold missI; rw [HM1.out]; rfl
                have HK : Hid (∀ X, Below w4.heap.size w4 X → X.cell? ⟨g1, 0, none⟩ = some (.int .i64 (j : Int))) := fun X hX => by
                  rw [hX.cell (p := ⟨g1, 0, none⟩) hg1b]
                  exact OG4.out.at (by rw [hmI]; rfl)
                have hjm : (j : Int) < (m : Int) := by rw [HM.out]; omega
                have hj0 : (0 : Int) ≤ (j : Int) := by omega
                have HJ := Lib.hid hj
                have hgg : Hid (g1 < w4.heap.size) := hg1b
                clear hj hm1 hmI OGx hg1a
                by_cases c5 : 0 < np
                · have k5 : decide ((0 : Int) < (np : Int)) = true := by rw [decide_eq_true_iff]; omega
                  have k5p : ((0 : Int) < (np : Int)) = True := by rw [eq_iff_iff]; exact ⟨fun _ => trivial, fun _ => by omega⟩
                  have HC5 := Lib.hid c5
                  clear c5
                  go_wp2_with fail
                  refine wp_region_held_drew (S := fun X => X.cell? ⟨g1, 0, none⟩ = some (.int .i64 (j : Int))) (by kernel_rfl) (by exact HK.out _ (by iterate 8 try (first | assumption | exact belR _ | apply belDr | apply belAlloc | refine Below.setCell ?_ (by show w4.heap.size ≤ go; exact hgo4) _))) (fun hHeld => ?_)
                  refine wpAnyH_take (i := 0) (oi := _) (v := ?_) rfl (by kernel_rfl) (by kernel_rfl) (by kernel_rfl) (fun _ _ _ h => h) (Or.inl ⟨by rfl, ?_⟩) (by assumption) ?_
                  rotate_left
                  · intro w hSw
                    (try dsimp only at hSw)
                    go_simp
                    try with_reducible rfl
                  try simp only [Act.put, List.getElem_toArray, List.getElem_cons_zero, List.getElem_cons_succ, List.setIfInBounds_toArray, List.set_cons_zero, List.set_cons_succ]
                  refine wpAnyH_take (i := 1) (oi := _) (v := ?_) rfl (by kernel_rfl) (by kernel_rfl) (by kernel_rfl) (fun _ _ _ h => h) (Or.inl ⟨by rfl, ?_⟩) (by assumption) ?_
                  rotate_left
                  · intro w hSw
                    (try dsimp only at hSw)
                    go_simp
                    try with_reducible rfl
                  try simp only [Act.put, List.getElem_toArray, List.getElem_cons_zero, List.getElem_cons_succ, List.setIfInBounds_toArray, List.set_cons_zero, List.set_cons_succ]
                  refine wpAnyH_take (i := 4) (oi := _) (v := ?_) rfl (by kernel_rfl) (by kernel_rfl) (by kernel_rfl) (fun _ _ _ h => h) (Or.inl ⟨by rfl, ?_⟩) (by assumption) ?_
                  rotate_left
                  · intro w hSw
                    (try dsimp only at hSw)
                    go_simp
                    try with_reducible rfl
                  try simp only [Act.put, List.getElem_toArray, List.getElem_cons_zero, List.getElem_cons_succ, List.setIfInBounds_toArray, List.set_cons_zero, List.set_cons_succ]
                  refine wpAnyH_take (i := 5) (oi := _) (v := ?_) rfl (by kernel_rfl) (by kernel_rfl) (by kernel_rfl) (fun _ _ _ h => h) (Or.inl ⟨by rfl, ?_⟩) (by assumption) ?_
                  rotate_left
                  · intro w hSw
                    (try dsimp only at hSw)
                    go_simp
                    try with_reducible rfl
                  try simp only [Act.put, List.getElem_toArray, List.getElem_cons_zero, List.getElem_cons_succ, List.setIfInBounds_toArray, List.set_cons_zero, List.set_cons_succ]
                  refine wpAnyH_take (i := 2) (oi := _) (v := ?_) rfl (by kernel_rfl) (by kernel_rfl) (by kernel_rfl) (fun _ _ _ h => h) (Or.inl ⟨by rfl, ?_⟩) (by assumption) ?_
                  rotate_left
                  · intro w hSw
                    (try dsimp only at hSw)
                    go_simp
                    try with_reducible rfl
                  try simp only [Act.put, List.getElem_toArray, List.getElem_cons_zero, List.getElem_cons_succ, List.setIfInBounds_toArray, List.set_cons_zero, List.set_cons_succ]
                  refine wpAnyH_take (i := 3) (oi := _) (v := ?_) rfl (by kernel_rfl) (by kernel_rfl) (by kernel_rfl) (fun _ _ _ h => h) (Or.inl ⟨by rfl, ?_⟩) (by assumption) ?_
                  rotate_left
                  · intro w hSw
                    (try dsimp only at hSw)
                    go_simp
                    try with_reducible rfl
                  try simp only [Act.put, List.getElem_toArray, List.getElem_cons_zero, List.getElem_cons_succ, List.setIfInBounds_toArray, List.set_cons_zero, List.set_cons_succ]
                  refine wpAnyH_ready (rs := [6]) (by kernel_rfl) (by simp) ?_
                  refine AllReadyH.cons (o := _) rfl (fun K hK => ?_) AllReadyH.nil
                  go_simp
                  refine Calls.mono (synP_any _ _ _ (OB.out.parts.up (by first | exact belR _ | exact belDr (belR _))) (by rw [HOL.out]; have := HC.out; omega) (fun r hr => Nat.le_trans (HOUT.out r hr) (by decide))) ?_
                  rintro e w6 ⟨v6, rfl, O6, b6⟩
                  have B6 : Below w5.heap.size w5 w6 := belT (by first | exact belR _ | exact belDr (belR _)) b6
                  have B46 : Below w4.heap.size w4 w6 := belT B45.out B6
                  try go_simp
                  refine hK.out _ _ (by exact HK.out _ (by iterate 8 try (first | assumption | exact belR _ | apply belDr | apply belAlloc | refine Below.setCell ?_ (by show w4.heap.size ≤ go; exact hgo4) _))) (fun hHeld => ?_)
                  clear hK K
                  try simp only [Act.put, List.getElem_toArray, List.getElem_cons_zero, List.getElem_cons_succ, List.setIfInBounds_toArray, List.set_cons_zero, List.set_cons_succ]
                  refine wpAnyH_ready (rs := [7]) (by kernel_rfl) (by simp) ?_
                  refine AllReadyH.cons (o := _) rfl (fun K hK => ?_) AllReadyH.nil
                  go_simp
                  refine Calls.mono (add_any _ _ p _ _ (HP.out.up (belT B4 (by iterate 8 try (first | assumption | exact belR _ | apply belDr | apply belAlloc | refine Below.setCell ?_ (by show w4.heap.size ≤ go; exact hgo4) _)))) (O6.byt.up (by first | exact belR _ | exact belDr (belR _))) (by have := HPN.out; have := HN.out; have := HNP.out; omega)) ?_
                  rintro e w7 ⟨v7, rfl, O7, b7⟩
                  obtain ⟨a7, k7, rfl, _, _⟩ := O7.byt.shape
                  have B7 : Below w5.heap.size w5 w7 := belT (by first | exact B6 | exact belDr B6) b7
                  have B47 : Below w4.heap.size w4 w7 := belT B45.out B7
                  have O7' : Own w7 w5.heap.size _ _ := own_mono O7 (by first | exact B6.size | exact (belDr B6).size)
                  obtain ⟨cz, pz, hcz, hfz, _⟩ := (OB.out.up B7).get (k := j) (by rw [HOL.out]; have := HJ.out; have := HM.out; omega)
                  try go_simp
                  refine hK.out _ _ (by exact HK.out _ (by iterate 8 try (first | assumption | exact belR _ | apply belDr | apply belAlloc | refine Below.setCell ?_ (by show w4.heap.size ≤ go; exact hgo4) _))) (fun hHeld => ?_)
                  clear hK K
                  try simp only [Act.put, List.getElem_toArray, List.getElem_cons_zero, List.getElem_cons_succ, List.setIfInBounds_toArray, List.set_cons_zero, List.set_cons_succ]
                  refine wpAnyH_take (i := 8) (oi := _) (v := ?_) rfl (by kernel_rfl) (by kernel_rfl) (by kernel_rfl) (fun _ _ _ h => h) (Or.inl ⟨by rfl, ?_⟩) (by assumption) ?_
                  rotate_left
                  · intro w hSw
                    (try dsimp only at hSw)
                    go_simp
                    try with_reducible rfl
                  try simp only [Act.put, List.getElem_toArray, List.getElem_cons_zero, List.getElem_cons_succ, List.setIfInBounds_toArray, List.set_cons_zero, List.set_cons_succ]
                  refine wpAnyH_ready (rs := [9]) (by kernel_rfl) (by simp) ?_
                  refine AllReadyH.cons (o := _) rfl (fun K hK => ?_) AllReadyH.nil
                  go_simp
                  refine hK.out _ _ (by exact HK.out _ (by iterate 8 try (first | assumption | exact belR _ | apply belDr | apply belAlloc | refine Below.setCell ?_ (by show w4.heap.size ≤ go; exact hgo4) _))) (fun hHeld => ?_)
                  clear hK K
                  try simp only [Act.put, List.getElem_toArray, List.getElem_cons_zero, List.getElem_cons_succ, List.setIfInBounds_toArray, List.set_cons_zero, List.set_cons_succ]
                  refine wpAnyH_done (by kernel_rfl) ?_ _
                  go_wp2
                  go_ret2
                  refine ⟨.inl ⟨HOK.out, _, rfl, ?_⟩, ?_⟩
                  · have := (RowB.put (OB.out.up B7) (k := j) (by rw [HOL.out]; omega) O7'.byt (.inr (fun b hb e => by have := O7'.ge b hb; omega))).baseLe hww
                    have e : Y.solveL n p q ls = (ls.map (Y.fz n)).set j (Y.addL p (Y.P (ls.map (Y.fz n)))) := by unfold Y.solveL; rw [HM1.out]; exact if_pos (by rw [← HNP.out]; exact HC5.out)
                    rw [e]
                    first | exact this | exact this.up (belDr (belR _))
                  · refine belT B4 ?_; exact (by iterate 8 try (first | assumption | exact belR _ | apply belDr | apply belAlloc | refine Below.setCell ?_ (by show w4.heap.size ≤ go; exact hgo4) _))
                · have k5 : decide ((0 : Int) < (np : Int)) = false := by rw [decide_eq_false_iff_not]; omega
                  have k5p : ((0 : Int) < (np : Int)) = False := by rw [eq_iff_iff]; exact ⟨fun h => by omega, fun h => h.elim⟩
                  have HC5 := Lib.hid c5
                  clear c5
                  go_wp2_with fail
                  refine wp_region_held_drew (S := fun X => X.cell? ⟨g1, 0, none⟩ = some (.int .i64 (j : Int))) (by kernel_rfl) (by exact HK.out _ (by iterate 8 try (first | assumption | exact belR _ | apply belDr | apply belAlloc | refine Below.setCell ?_ (by show w4.heap.size ≤ go; exact hgo4) _))) (fun hHeld => ?_)
                  refine wpAnyH_take (i := 0) (oi := _) (v := ?_) rfl (by kernel_rfl) (by kernel_rfl) (by kernel_rfl) (fun _ _ _ h => h) (Or.inl ⟨by rfl, ?_⟩) (by assumption) ?_
                  rotate_left
                  · intro w hSw
                    (try dsimp only at hSw)
                    go_simp
                    try with_reducible rfl
                  try simp only [Act.put, List.getElem_toArray, List.getElem_cons_zero, List.getElem_cons_succ, List.setIfInBounds_toArray, List.set_cons_zero, List.set_cons_succ]
                  refine wpAnyH_take (i := 1) (oi := _) (v := ?_) rfl (by kernel_rfl) (by kernel_rfl) (by kernel_rfl) (fun _ _ _ h => h) (Or.inl ⟨by rfl, ?_⟩) (by assumption) ?_
                  rotate_left
                  · intro w hSw
                    (try dsimp only at hSw)
                    go_simp
                    try with_reducible rfl
                  try simp only [Act.put, List.getElem_toArray, List.getElem_cons_zero, List.getElem_cons_succ, List.setIfInBounds_toArray, List.set_cons_zero, List.set_cons_succ]
                  refine wpAnyH_take (i := 4) (oi := _) (v := ?_) rfl (by kernel_rfl) (by kernel_rfl) (by kernel_rfl) (fun _ _ _ h => h) (Or.inl ⟨by rfl, ?_⟩) (by assumption) ?_
                  rotate_left
                  · intro w hSw
                    (try dsimp only at hSw)
                    go_simp
                    try with_reducible rfl
                  try simp only [Act.put, List.getElem_toArray, List.getElem_cons_zero, List.getElem_cons_succ, List.setIfInBounds_toArray, List.set_cons_zero, List.set_cons_succ]
                  refine wpAnyH_take (i := 5) (oi := _) (v := ?_) rfl (by kernel_rfl) (by kernel_rfl) (by kernel_rfl) (fun _ _ _ h => h) (Or.inl ⟨by rfl, ?_⟩) (by assumption) ?_
                  rotate_left
                  · intro w hSw
                    (try dsimp only at hSw)
                    go_simp
                    try with_reducible rfl
                  try simp only [Act.put, List.getElem_toArray, List.getElem_cons_zero, List.getElem_cons_succ, List.setIfInBounds_toArray, List.set_cons_zero, List.set_cons_succ]
                  refine wpAnyH_take (i := 6) (oi := _) (v := ?_) rfl (by kernel_rfl) (by kernel_rfl) (by kernel_rfl) (fun _ _ _ h => h) (Or.inl ⟨by rfl, ?_⟩) (by assumption) ?_
                  rotate_left
                  · intro w hSw
                    (try dsimp only at hSw)
                    go_simp
                    try with_reducible rfl
                  try simp only [Act.put, List.getElem_toArray, List.getElem_cons_zero, List.getElem_cons_succ, List.setIfInBounds_toArray, List.set_cons_zero, List.set_cons_succ]
                  refine wpAnyH_take (i := 2) (oi := _) (v := ?_) rfl (by kernel_rfl) (by kernel_rfl) (by kernel_rfl) (fun _ _ _ h => h) (Or.inl ⟨by rfl, ?_⟩) (by assumption) ?_
                  rotate_left
                  · intro w hSw
                    (try dsimp only at hSw)
                    go_simp
                    try with_reducible rfl
                  try simp only [Act.put, List.getElem_toArray, List.getElem_cons_zero, List.getElem_cons_succ, List.setIfInBounds_toArray, List.set_cons_zero, List.set_cons_succ]
                  refine wpAnyH_take (i := 7) (oi := _) (v := ?_) rfl (by kernel_rfl) (by kernel_rfl) (by kernel_rfl) (fun _ _ _ h => h) (Or.inl ⟨by rfl, ?_⟩) (by assumption) ?_
                  rotate_left
                  · intro w hSw
                    (try dsimp only at hSw)
                    go_simp
                    try with_reducible rfl
                  try simp only [Act.put, List.getElem_toArray, List.getElem_cons_zero, List.getElem_cons_succ, List.setIfInBounds_toArray, List.set_cons_zero, List.set_cons_succ]
                  refine wpAnyH_take (i := 3) (oi := _) (v := ?_) rfl (by kernel_rfl) (by kernel_rfl) (by kernel_rfl) (fun _ _ _ h => h) (Or.inl ⟨by rfl, ?_⟩) (by assumption) ?_
                  rotate_left
                  · intro w hSw
                    (try dsimp only at hSw)
                    go_simp
                    try with_reducible rfl
                  try simp only [Act.put, List.getElem_toArray, List.getElem_cons_zero, List.getElem_cons_succ, List.setIfInBounds_toArray, List.set_cons_zero, List.set_cons_succ]
                  refine wpAnyH_take (i := 8) (oi := _) (v := ?_) rfl (by kernel_rfl) (by kernel_rfl) (by kernel_rfl) (fun _ _ _ h => h) (Or.inl ⟨by rfl, ?_⟩) (by assumption) ?_
                  rotate_left
                  · intro w hSw
                    (try dsimp only at hSw)
                    go_simp
                    try with_reducible rfl
                  try simp only [Act.put, List.getElem_toArray, List.getElem_cons_zero, List.getElem_cons_succ, List.setIfInBounds_toArray, List.set_cons_zero, List.set_cons_succ]
                  refine wpAnyH_ready (rs := [9]) (by kernel_rfl) (by simp) ?_
                  refine AllReadyH.cons (o := _) rfl (fun K hK => ?_) AllReadyH.nil
                  go_simp
                  refine Calls.mono (byQ_any _ _ q _ j _ (HQ.out.up (belT B4 (by iterate 8 try (first | assumption | exact belR _ | apply belDr | apply belAlloc | refine Below.setCell ?_ (by show w4.heap.size ≤ go; exact hgo4) _)))) (OB.out.parts.up (by first | exact belR _ | exact belDr (belR _))) (by have := HQN.out; have := HN.out; have := HNQ.out; omega) (by rw [HOL.out]; have := HC.out; omega) HOUT.out) ?_
                  rintro e w7 ⟨v7, rfl, O7, b7⟩
                  obtain ⟨a7, k7, rfl, _, _⟩ := O7.byt.shape
                  have B7 : Below w5.heap.size w5 w7 := belT (by first | exact belR _ | exact belDr (belR _)) b7
                  have B47 : Below w4.heap.size w4 w7 := belT B45.out B7
                  have O7' : Own w7 w5.heap.size _ _ := own_mono O7 (by first | exact Nat.le_refl _ | exact (belDr (belR _)).size)
                  obtain ⟨cz, pz, hcz, hfz, _⟩ := (OB.out.up B7).get (k := j) (by rw [HOL.out]; have := HJ.out; have := HM.out; omega)
                  try go_simp
                  refine hK.out _ _ (by exact HK.out _ (by iterate 8 try (first | assumption | exact belR _ | apply belDr | apply belAlloc | refine Below.setCell ?_ (by show w4.heap.size ≤ go; exact hgo4) _))) (fun hHeld => ?_)
                  clear hK K
                  try simp only [Act.put, List.getElem_toArray, List.getElem_cons_zero, List.getElem_cons_succ, List.setIfInBounds_toArray, List.set_cons_zero, List.set_cons_succ]
                  refine wpAnyH_take (i := 10) (oi := _) (v := ?_) rfl (by kernel_rfl) (by kernel_rfl) (by kernel_rfl) (fun _ _ _ h => h) (Or.inl ⟨by rfl, ?_⟩) (by assumption) ?_
                  rotate_left
                  · intro w hSw
                    (try dsimp only at hSw)
                    go_simp
                    try with_reducible rfl
                  try simp only [Act.put, List.getElem_toArray, List.getElem_cons_zero, List.getElem_cons_succ, List.setIfInBounds_toArray, List.set_cons_zero, List.set_cons_succ]
                  refine wpAnyH_ready (rs := [11]) (by kernel_rfl) (by simp) ?_
                  refine AllReadyH.cons (o := _) rfl (fun K hK => ?_) AllReadyH.nil
                  go_simp
                  refine hK.out _ _ (by exact HK.out _ (by iterate 8 try (first | assumption | exact belR _ | apply belDr | apply belAlloc | refine Below.setCell ?_ (by show w4.heap.size ≤ go; exact hgo4) _))) (fun hHeld => ?_)
                  clear hK K
                  try simp only [Act.put, List.getElem_toArray, List.getElem_cons_zero, List.getElem_cons_succ, List.setIfInBounds_toArray, List.set_cons_zero, List.set_cons_succ]
                  refine wpAnyH_done (by kernel_rfl) ?_ _
                  go_wp2
                  go_ret2
                  refine ⟨.inl ⟨HOK.out, _, rfl, ?_⟩, ?_⟩
                  · have := (RowB.put (OB.out.up B7) (k := j) (by rw [HOL.out]; omega) O7'.byt (.inr (fun b hb e => by have := O7'.ge b hb; omega))).baseLe hww
                    have e : Y.solveL n p q ls = (ls.map (Y.fz n)).set j (Y.byQL q (ls.map (Y.fz n)) j) := by unfold Y.solveL; rw [HM1.out]; exact if_neg (by rw [← HNP.out]; exact HC5.out)
                    rw [e]
                    first | exact this | exact this.up (belDr (belR _))
                  · refine belT B4 ?_; exact (by iterate 8 try (first | assumption | exact belR _ | apply belDr | apply belAlloc | refine Below.setCell ?_ (by show w4.heap.size ≤ go; exact hgo4) _))
              · have e1 : ng = 2 := by rw [HNG.out, hm2]; rfl
                subst e1
                have HM2 := Lib.hid hm2
                obtain ⟨g1, c1', eg, hg1a, hg1b, _⟩ := OG4.out.shape (by rw [missI_len, HM2.out]; simp)
                rw [show (missI ls).length = 2 by rw [missI_len, HM2.out]; rfl] at eg
                cases eg
                have hmI : missI ls = [(j : Int), (k : Int)] := by unfold missI; rw [HM2.out]; rfl
                have HK : Hid (∀ X, Below w4.heap.size w4 X → X.cell? ⟨g1, 0, none⟩ = some (.int .i64 (j : Int)) ∧ X.cell? ⟨g1, 1, none⟩ = some (.int .i64 (k : Int))) := fun X hX => by
                  rw [hX.cell (p := ⟨g1, 0, none⟩) hg1b, hX.cell (p := ⟨g1, 1, none⟩) hg1b]
                  exact ⟨OG4.out.at (by rw [hmI]; rfl), OG4.out.at (by rw [hmI]; rfl)⟩
                have hjm : (j : Int) < (m : Int) := by rw [HM.out]; omega
                have hj0 : (0 : Int) ≤ (j : Int) := by omega
                have hkm : (k : Int) < (m : Int) := by rw [HM.out]; omega
                have hk0 : (0 : Int) ≤ (k : Int) := by omega
                have HJ := Lib.hid hj
                have HKK := Lib.hid hk
                clear hj hk hm2 hmI hg1a
                go_wp2_with fail
                refine wp_region_held_drew (S := fun X => X.cell? ⟨g1, 0, none⟩ = some (.int .i64 (j : Int)) ∧ X.cell? ⟨g1, 1, none⟩ = some (.int .i64 (k : Int))) (by kernel_rfl) (by exact HK.out _ (by iterate 8 try (first | assumption | exact belR _ | apply belDr | apply belAlloc | refine Below.setCell ?_ (by show w4.heap.size ≤ go; exact hgo4) _))) (fun hHeld => ?_)
                refine wpAnyH_take (i := 0) (oi := _) (v := ?_) rfl (by kernel_rfl) (by kernel_rfl) (by kernel_rfl) (fun _ _ _ h => h) (Or.inl ⟨by rfl, ?_⟩) (by assumption) ?_
                rotate_left
                · intro w hSw
                  (try dsimp only at hSw)
                  go_simp
                  try with_reducible rfl
                try simp only [Act.put, List.getElem_toArray, List.getElem_cons_zero, List.getElem_cons_succ, List.setIfInBounds_toArray, List.set_cons_zero, List.set_cons_succ]
                refine wpAnyH_take (i := 1) (oi := _) (v := ?_) rfl (by kernel_rfl) (by kernel_rfl) (by kernel_rfl) (fun _ _ _ h => h) (Or.inl ⟨by rfl, ?_⟩) (by assumption) ?_
                rotate_left
                · intro w hSw
                  (try dsimp only at hSw)
                  go_simp
                  try with_reducible rfl
                try simp only [Act.put, List.getElem_toArray, List.getElem_cons_zero, List.getElem_cons_succ, List.setIfInBounds_toArray, List.set_cons_zero, List.set_cons_succ]
                refine wpAnyH_take (i := 4) (oi := _) (v := ?_) rfl (by kernel_rfl) (by kernel_rfl) (by kernel_rfl) (fun _ _ _ h => h) (Or.inl ⟨by rfl, ?_⟩) (by assumption) ?_
                rotate_left
                · intro w hSw
                  (try dsimp only at hSw)
                  go_simp
                  try with_reducible rfl
                try simp only [Act.put, List.getElem_toArray, List.getElem_cons_zero, List.getElem_cons_succ, List.setIfInBounds_toArray, List.set_cons_zero, List.set_cons_succ]
                refine wpAnyH_take (i := 5) (oi := _) (v := ?_) rfl (by kernel_rfl) (by kernel_rfl) (by kernel_rfl) (fun _ _ _ h => h) (Or.inl ⟨by rfl, ?_⟩) (by assumption) ?_
                rotate_left
                · intro w hSw
                  (try dsimp only at hSw)
                  go_simp
                  try with_reducible rfl
                try simp only [Act.put, List.getElem_toArray, List.getElem_cons_zero, List.getElem_cons_succ, List.setIfInBounds_toArray, List.set_cons_zero, List.set_cons_succ]
                refine wpAnyH_take (i := 8) (oi := _) (v := ?_) rfl (by kernel_rfl) (by kernel_rfl) (by kernel_rfl) (fun _ _ _ h => h) (Or.inl ⟨by rfl, ?_⟩) (by assumption) ?_
                rotate_left
                · intro w hSw
                  (try dsimp only at hSw)
                  go_simp
                  try with_reducible rfl
                try simp only [Act.put, List.getElem_toArray, List.getElem_cons_zero, List.getElem_cons_succ, List.setIfInBounds_toArray, List.set_cons_zero, List.set_cons_succ]
                refine wpAnyH_take (i := 9) (oi := _) (v := ?_) rfl (by kernel_rfl) (by kernel_rfl) (by kernel_rfl) (fun _ _ _ h => h) (Or.inl ⟨by rfl, ?_⟩) (by assumption) ?_
                rotate_left
                · intro w hSw
                  (try dsimp only at hSw)
                  go_simp
                  try with_reducible rfl
                try simp only [Act.put, List.getElem_toArray, List.getElem_cons_zero, List.getElem_cons_succ, List.setIfInBounds_toArray, List.set_cons_zero, List.set_cons_succ]
                refine wpAnyH_take (i := 10) (oi := _) (v := ?_) rfl (by kernel_rfl) (by kernel_rfl) (by kernel_rfl) (fun _ _ _ h => h) (Or.inl ⟨by rfl, ?_⟩) (by assumption) ?_
                rotate_left
                · intro w hSw
                  (try dsimp only at hSw)
                  go_simp
                  try with_reducible rfl
                try simp only [Act.put, List.getElem_toArray, List.getElem_cons_zero, List.getElem_cons_succ, List.setIfInBounds_toArray, List.set_cons_zero, List.set_cons_succ]
                refine wpAnyH_take (i := 11) (oi := _) (v := ?_) rfl (by kernel_rfl) (by kernel_rfl) (by kernel_rfl) (fun _ _ _ h => h) (Or.inl ⟨by rfl, ?_⟩) (by assumption) ?_
                rotate_left
                · intro w hSw
                  (try dsimp only at hSw)
                  go_simp
                  try with_reducible rfl
                try simp only [Act.put, List.getElem_toArray, List.getElem_cons_zero, List.getElem_cons_succ, List.setIfInBounds_toArray, List.set_cons_zero, List.set_cons_succ]
                refine wpAnyH_take (i := 14) (oi := _) (v := ?_) rfl (by kernel_rfl) (by kernel_rfl) (by kernel_rfl) (fun _ _ _ h => h) (Or.inl ⟨by rfl, ?_⟩) (by assumption) ?_
                rotate_left
                · intro w hSw
                  (try dsimp only at hSw)
                  go_simp
                  try with_reducible rfl
                try simp only [Act.put, List.getElem_toArray, List.getElem_cons_zero, List.getElem_cons_succ, List.setIfInBounds_toArray, List.set_cons_zero, List.set_cons_succ]
                refine wpAnyH_take (i := 2) (oi := _) (v := ?_) rfl (by kernel_rfl) (by kernel_rfl) (by kernel_rfl) (fun _ _ _ h => h) (Or.inl ⟨by rfl, ?_⟩) (by assumption) ?_
                rotate_left
                · intro w hSw
                  (try dsimp only at hSw)
                  go_simp
                  try with_reducible rfl
                try simp only [Act.put, List.getElem_toArray, List.getElem_cons_zero, List.getElem_cons_succ, List.setIfInBounds_toArray, List.set_cons_zero, List.set_cons_succ]
                refine wpAnyH_take (i := 6) (oi := _) (v := ?_) rfl (by kernel_rfl) (by kernel_rfl) (by kernel_rfl) (fun _ _ _ h => h) (Or.inl ⟨by rfl, ?_⟩) (by assumption) ?_
                rotate_left
                · intro w hSw
                  (try dsimp only at hSw)
                  go_simp
                  try with_reducible rfl
                try simp only [Act.put, List.getElem_toArray, List.getElem_cons_zero, List.getElem_cons_succ, List.setIfInBounds_toArray, List.set_cons_zero, List.set_cons_succ]
                refine wpAnyH_take (i := 12) (oi := _) (v := ?_) rfl (by kernel_rfl) (by kernel_rfl) (by kernel_rfl) (fun _ _ _ h => h) (Or.inl ⟨by rfl, ?_⟩) (by assumption) ?_
                rotate_left
                · intro w hSw
                  (try dsimp only at hSw)
                  go_simp
                  try with_reducible rfl
                try simp only [Act.put, List.getElem_toArray, List.getElem_cons_zero, List.getElem_cons_succ, List.setIfInBounds_toArray, List.set_cons_zero, List.set_cons_succ]
                refine wpAnyH_take (i := 15) (oi := _) (v := ?_) rfl (by kernel_rfl) (by kernel_rfl) (by kernel_rfl) (fun _ _ _ h => h) (Or.inl ⟨by rfl, ?_⟩) (by assumption) ?_
                rotate_left
                · intro w hSw
                  (try dsimp only at hSw)
                  go_simp
                  try with_reducible rfl
                try simp only [Act.put, List.getElem_toArray, List.getElem_cons_zero, List.getElem_cons_succ, List.setIfInBounds_toArray, List.set_cons_zero, List.set_cons_succ]
                refine wpAnyH_take (i := 3) (oi := _) (v := ?_) rfl (by kernel_rfl) (by kernel_rfl) (by kernel_rfl) (fun _ _ _ h => h) (Or.inl ⟨by rfl, ?_⟩) (by assumption) ?_
                rotate_left
                · intro w hSw
                  (try dsimp only at hSw)
                  go_simp
                  try with_reducible rfl
                try simp only [Act.put, List.getElem_toArray, List.getElem_cons_zero, List.getElem_cons_succ, List.setIfInBounds_toArray, List.set_cons_zero, List.set_cons_succ]
                refine wpAnyH_take (i := 7) (oi := _) (v := ?_) rfl (by kernel_rfl) (by kernel_rfl) (by kernel_rfl) (fun _ _ _ h => h) (Or.inl ⟨by rfl, ?_⟩) (by assumption) ?_
                rotate_left
                · intro w hSw
                  (try dsimp only at hSw)
                  go_simp
                  try with_reducible rfl
                try simp only [Act.put, List.getElem_toArray, List.getElem_cons_zero, List.getElem_cons_succ, List.setIfInBounds_toArray, List.set_cons_zero, List.set_cons_succ]
                refine wpAnyH_take (i := 13) (oi := _) (v := ?_) rfl (by kernel_rfl) (by kernel_rfl) (by kernel_rfl) (fun _ _ _ h => h) (Or.inl ⟨by rfl, ?_⟩) (by assumption) ?_
                rotate_left
                · intro w hSw
                  (try dsimp only at hSw)
                  go_simp
                  try with_reducible rfl
                try simp only [Act.put, List.getElem_toArray, List.getElem_cons_zero, List.getElem_cons_succ, List.setIfInBounds_toArray, List.set_cons_zero, List.set_cons_succ]
                refine wpAnyH_take (i := 16) (oi := _) (v := ?_) rfl (by kernel_rfl) (by kernel_rfl) (by kernel_rfl) (fun _ _ _ h => h) (Or.inl ⟨by rfl, ?_⟩) (by assumption) ?_
                rotate_left
                · intro w hSw
                  (try dsimp only at hSw)
                  go_simp
                  try with_reducible rfl
                try simp only [Act.put, List.getElem_toArray, List.getElem_cons_zero, List.getElem_cons_succ, List.setIfInBounds_toArray, List.set_cons_zero, List.set_cons_succ]
                refine wpAnyH_ready (rs := [17]) (by kernel_rfl) (by simp) ?_
                refine AllReadyH.cons (o := _) rfl (fun K hK => ?_) AllReadyH.nil
                go_simp
                refine Calls.mono (two_any _ _ _ p q _ j k _ (HP.out.up (belT B4 (by iterate 8 try (first | assumption | exact belR _ | apply belDr | apply belAlloc | refine Below.setCell ?_ (by show w4.heap.size ≤ go; exact hgo4) _)))) (HQ.out.up (belT B4 (by iterate 8 try (first | assumption | exact belR _ | apply belDr | apply belAlloc | refine Below.setCell ?_ (by show w4.heap.size ≤ go; exact hgo4) _)))) (OB.out.parts.up (by first | exact belR _ | exact belDr (belR _))) (by have := HPN.out; have := HN.out; have := HNP.out; omega) (by have := HQN.out; have := HN.out; have := HNQ.out; omega) (by rw [HOL.out]; have := HC.out; omega) HOUT.out) ?_
                rintro e w7 ⟨vx, vy, rfl, OX, OY, b7⟩
                obtain ⟨ax, kx, rfl, _, _⟩ := OX.byt.shape
                obtain ⟨ay, ky, rfl, _, _⟩ := OY.byt.shape
                have B7 : Below w5.heap.size w5 w7 := belT (by first | exact belR _ | exact belDr (belR _)) b7
                have B47 : Below w4.heap.size w4 w7 := belT B45.out B7
                have OX' : Own w7 w5.heap.size _ _ := own_mono OX (by first | exact Nat.le_refl _ | exact (belDr (belR _)).size)
                have OY' : Own w7 w5.heap.size _ _ := own_mono OY (by first | exact Nat.le_refl _ | exact (belDr (belR _)).size)
                obtain ⟨cz, pz, hcz, hfz, _⟩ := (OB.out.up B7).get (k := j) (by rw [HOL.out]; have := HJ.out; have := HM.out; omega)
                have q1 := Lib.hid (RowB.put (OB.out.up B7) (k := j) (by rw [HOL.out]; have := HJ.out; have := HM.out; omega) OX'.byt (.inr (fun b hb e => by have := OX'.ge b hb; omega)))
                obtain ⟨cy, py, hcy, hfy, _⟩ := q1.out.get (k := k) (by rw [List.length_set, HOL.out]; have := HKK.out; have := HM.out; omega)
                try go_simp
                refine hK.out _ _ (by exact HK.out _ (by iterate 8 try (first | assumption | exact belR _ | apply belDr | apply belAlloc | refine Below.setCell ?_ (by show w4.heap.size ≤ go; exact hgo4) _))) (fun hHeld => ?_)
                clear hK K
                try simp only [Act.put, List.getElem_toArray, List.getElem_cons_zero, List.getElem_cons_succ, List.setIfInBounds_toArray, List.set_cons_zero, List.set_cons_succ]
                refine wpAnyH_take (i := 18) (oi := _) (v := ?_) rfl (by kernel_rfl) (by kernel_rfl) (by kernel_rfl) (fun _ _ _ h => h) (Or.inl ⟨by rfl, ?_⟩) (by assumption) ?_
                rotate_left
                · intro w hSw
                  (try dsimp only at hSw)
                  go_simp
                  try with_reducible rfl
                try simp only [Act.put, List.getElem_toArray, List.getElem_cons_zero, List.getElem_cons_succ, List.setIfInBounds_toArray, List.set_cons_zero, List.set_cons_succ]
                refine wpAnyH_take (i := 19) (oi := _) (v := ?_) rfl (by kernel_rfl) (by kernel_rfl) (by kernel_rfl) (fun _ _ _ h => h) (Or.inl ⟨by rfl, ?_⟩) (by assumption) ?_
                rotate_left
                · intro w hSw
                  (try dsimp only at hSw)
                  go_simp
                  try with_reducible rfl
                try simp only [Act.put, List.getElem_toArray, List.getElem_cons_zero, List.getElem_cons_succ, List.setIfInBounds_toArray, List.set_cons_zero, List.set_cons_succ]
                refine wpAnyH_take (i := 20) (oi := _) (v := ?_) rfl (by kernel_rfl) (by kernel_rfl) (by kernel_rfl) (fun _ _ _ h => h) (Or.inl ⟨by rfl, ?_⟩) (by assumption) ?_
                rotate_left
                · intro w hSw
                  (try dsimp only at hSw)
                  go_simp
                  try with_reducible rfl
                try simp only [Act.put, List.getElem_toArray, List.getElem_cons_zero, List.getElem_cons_succ, List.setIfInBounds_toArray, List.set_cons_zero, List.set_cons_succ]
                refine wpAnyH_take (i := 21) (oi := _) (v := ?_) rfl (by kernel_rfl) (by kernel_rfl) (by kernel_rfl) (fun _ _ _ h => h) (Or.inl ⟨by rfl, ?_⟩) (by assumption) ?_
                rotate_left
                · intro w hSw
                  (try dsimp only at hSw)
                  go_simp
                  try with_reducible rfl
                try simp only [Act.put, List.getElem_toArray, List.getElem_cons_zero, List.getElem_cons_succ, List.setIfInBounds_toArray, List.set_cons_zero, List.set_cons_succ]
                refine wpAnyH_ready (rs := [22]) (by kernel_rfl) (by simp) ?_
                refine AllReadyH.cons (o := _) rfl (fun K hK => ?_) AllReadyH.nil
                go_simp
                refine hK.out _ _ (by exact HK.out _ (by iterate 8 try (first | assumption | exact belR _ | apply belDr | apply belAlloc | refine Below.setCell ?_ (by show w4.heap.size ≤ go; exact hgo4) _))) (fun hHeld => ?_)
                clear hK K
                try simp only [Act.put, List.getElem_toArray, List.getElem_cons_zero, List.getElem_cons_succ, List.setIfInBounds_toArray, List.set_cons_zero, List.set_cons_succ]
                refine wpAnyH_take (i := 23) (oi := _) (v := ?_) rfl (by kernel_rfl) (by kernel_rfl) (by kernel_rfl) (fun _ _ _ h => h) (Or.inl ⟨by rfl, ?_⟩) (by assumption) ?_
                rotate_left
                · intro w hSw
                  (try dsimp only at hSw)
                  go_simp
                  try with_reducible rfl
                try simp only [Act.put, List.getElem_toArray, List.getElem_cons_zero, List.getElem_cons_succ, List.setIfInBounds_toArray, List.set_cons_zero, List.set_cons_succ]
                refine wpAnyH_ready (rs := [24]) (by kernel_rfl) (by simp) ?_
                refine AllReadyH.cons (o := _) rfl (fun K hK => ?_) AllReadyH.nil
                go_simp
                refine hK.out _ _ (by exact HK.out _ (by iterate 8 try (first | assumption | exact belR _ | apply belDr | apply belAlloc | refine Below.setCell ?_ (by show w4.heap.size ≤ go; exact hgo4) _))) (fun hHeld => ?_)
                clear hK K
                try simp only [Act.put, List.getElem_toArray, List.getElem_cons_zero, List.getElem_cons_succ, List.setIfInBounds_toArray, List.set_cons_zero, List.set_cons_succ]
                refine wpAnyH_done (by kernel_rfl) ?_ _
                go_wp2
                go_ret2
                refine ⟨.inl ⟨HOK.out, _, rfl, ?_⟩, ?_⟩
                · skip
                  have q3 := (RowB.put q1.out (k := k) (by rw [List.length_set, HOL.out]; omega) (OY'.setAt hgo5).byt (.inr (fun b hb e => by have := OY'.ge b hb; omega))).baseLe hww
                  have e : Y.solveL n p q ls = ((ls.map (Y.fz n)).set j (Y.twoX p q (ls.map (Y.fz n)) j k)).set k (Y.twoY p q (ls.map (Y.fz n)) j k) := by unfold Y.solveL; rw [HM2.out]; rfl
                  rw [e]
                  first | exact q3 | exact q3.up (belDr (belR _))
                · refine belT B4 ?_; exact (by iterate 8 try (first | assumption | exact belR _ | apply belDr | apply belAlloc | refine Below.setCell ?_ (by show w4.heap.size ≤ go; exact hgo4) _))
            · have k4 : decide ((2 : Int) < (ng : Int) + (nh : Int)) = true := by rw [decide_eq_true_iff]; omega
              have k4p : ((2 : Int) < (ng : Int) + (nh : Int)) = True := by rw [eq_iff_iff]; exact ⟨fun _ => trivial, fun _ => by omega⟩
              have HC4 := Lib.hid c4
              clear c4
              go_wp2
              go_ret2
              exact ⟨.inr ⟨no4 (by rw [← HNG.out, ← HNH.out]; exact HC4.out), rfl⟩, B4⟩
      · have k3 : decide ((8 : Int) < (m : Int)) = true := by rw [decide_eq_true_iff]; omega
        have k3p : ((8 : Int) < (m : Int)) = True := by rw [eq_iff_iff]; exact ⟨fun _ => trivial, fun _ => by omega⟩
        have HC := Lib.hid c3
        clear c1 c2 c3
        go_wp2
        go_ret2
        exact ⟨.inr ⟨no1 (fun h => by have := HC.out; have := HM.out; omega), rfl⟩, b1⟩
    · have k2 : decide ((m : Int) < 1) = true := by rw [decide_eq_true_iff]; omega
      have k2p : ((m : Int) < 1) = True := by rw [eq_iff_iff]; exact ⟨fun _ => trivial, fun _ => by omega⟩
      have HC := Lib.hid c2
      clear c1 c2
      go_wp2
      go_ret2
      exact ⟨.inr ⟨no1 (fun h => by have := HC.out; have := HM.out; omega), rfl⟩, b1⟩
  · have k1 : decide ((n : Int) < 1) = true := by rw [decide_eq_true_iff]; omega
    have k1p : ((n : Int) < 1) = True := by rw [eq_iff_iff]; exact ⟨fun _ => trivial, fun _ => by omega⟩
    have HC := Lib.hid c1
    clear c1
    go_wp2
    go_ret2
    exact ⟨.inr ⟨no1 (fun h => by have := HC.out; omega), rfl⟩, b1⟩
end Go.Proofs.Ytknodcaknopcnaa
