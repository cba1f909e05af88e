/- Merged: LoA, LaP, LaI. -/
import Derived.Test.YtenjpldinnbcbaaLgB
import Derived.Test.YtenjpldinnbcbaaRecD
/- Plain law of LogOne: which record each disk has, behind a Put, behind a failure. -/

namespace Go.Proofs.Ytenjpldinnbcbaa
open Go.RowKit C
set_option linter.unusedVariables false
set_option linter.unusedSimpArgs false
set_option maxRecDepth 100000
set_option maxHeartbeats 1000000

namespace B
/-- the record of a disk -/
def recR (c : Bn) (d : Nat) : Int × List RI := if ris (rows4 c d 4) = true then (rnum (rows4 c d 4), rlist (rows4 c d 4)) else (0, [])
theorem recR_yes {c : Bn} {d : Nat} {s : Int} {l : List RI} (h : rows4 c d 4 = renc s l) (hk : rok s l = true) : recR c d = (s, l) := by
  unfold recR; rw [h, if_pos (ris_enc hk), rnum_enc hk, rlist_enc hk]
theorem recR_no {c : Bn} {d : Nat} (h : ris (rows4 c d 4) = false) : recR c d = (0, []) := by unfold recR; rw [if_neg (by rw [h]; decide)]
theorem recR_ge (c : Bn) (d : Nat) : 0 ≤ (recR c d).1 := by
  unfold recR
  split
  · rename_i h; have := ((rok_iff _ _).1 ((ris_iff _).1 h).2.1).1.1; show 0 ≤ rnum _; omega
  · exact Int.le_refl _
theorem stR_rec {c : Bn} {r : Int × List RI} {d : Nat} (h : 0 ≤ r.1) : stR c r d = if r.1 < (recR c d).1 then recR c d else r := by
  unfold stR recR
  by_cases hr : ris (rows4 c d 4) = true
  · rw [if_pos hr]
    by_cases hq : r.1 < rnum (rows4 c d 4)
    · rw [if_pos ⟨hr, hq⟩, if_pos hq]
    · rw [if_neg (fun h => hq h.2), if_neg hq]
  · rw [if_neg hr, if_neg (fun h => hr h.1), if_neg (by show ¬ r.1 < 0; omega)]
theorem rows_failed {c : Bn} {d : Nat} (h : failB c d = true) : recR c d = (0, []) := by
  refine recR_no ?_
  have : rows4 c d 4 = [[], [], [], []] := by show [rd c d 0, rd c d 1, rd c d 2, rd c d 3] = _; unfold rd; rw [h]; rfl
  rw [this]; rfl
theorem best_fold {c : Bn} {R : Int × List RI} : ∀ {T : List Nat} {z : Int × List RI}, 0 ≤ z.1 → (∀ d ∈ T, recR c d = R ∨ (recR c d).1 < R.1) → (z = R ∨ z.1 < R.1) →
    (T.foldl (stR c) z = R ∨ (T.foldl (stR c) z).1 < R.1) ∧ (z = R ∨ (∃ d ∈ T, recR c d = R) → T.foldl (stR c) z = R) := by
  intro T
  induction T with
  | nil => intro z h0 hT hz; exact ⟨hz, fun h => h.elim id (fun ⟨d, hd, _⟩ => by cases hd)⟩
  | cons d T ih =>
    intro z h0 hT hz
    have hd := hT d (List.mem_cons_self ..)
    have e := stR_rec (c := c) (d := d) h0
    have hn : 0 ≤ (stR c z d).1 := by rw [e]; split; exact recR_ge c d; exact h0
    have hz2 : stR c z d = R ∨ (stR c z d).1 < R.1 := by rw [e]; split; exact hd; exact hz
    obtain ⟨i1, i2⟩ := ih hn (fun x hx => hT x (List.mem_cons_of_mem _ hx)) hz2
    refine ⟨i1, fun h => i2 ?_⟩
    rcases h with h | ⟨x, hx, hxr⟩
    · left
      rw [e]
      subst h
      rcases hd with hd | hd
      · rw [hd]; split <;> rfl
      · rw [if_neg (by omega)]
    · rcases List.mem_cons.1 hx with rfl | hx
      · left
        rw [e, hxr]
        rcases hz with hz | hz
        · rw [hz]; split <;> rfl
        · rw [if_pos hz]
      · exact .inr ⟨x, hx, hxr⟩
theorem best_of {c : Bn} {R : Int × List RI} {T : List Nat} (hR : 0 < R.1) (hT : ∀ d ∈ T, recR c d = R ∨ (recR c d).1 < R.1) (h : ∃ d ∈ T, recR c d = R) : bestR c T = R :=
  (best_fold (z := (0, [])) (Int.le_refl _) hT (.inr hR)).2 (.inr h)
theorem recR_put {c : Bn} (h : Pw c) (lv : List Bool) {s : Int} {l : List RI} (hk : rok s l = true) (hb : ∀ x ∈ l, ∀ y ∈ x.b, y < 256) {d : Nat} (hd : d < c.ds.length) :
    recR (putR c lv (renc s l)) d = if live1 lv d = true ∧ failB c d = false then (s, l) else recR c d := by
  obtain ⟨_, hn3, _⟩ := (rok_iff s l).1 hk
  obtain ⟨_, _, _, l1, f1, _, _⟩ := putR_spec h lv (all := renc s l) (renc_32 hn3 (rok_fine hk)) (renc_byte hb) (renc_len hn3)
  cases hf : failB c d with
  | true => rw [if_neg (fun h => by cases h.2), rows_failed hf, rows_failed (by rw [f1 d hd]; exact hf)]
  | false =>
    have hr := rows4_put h lv hk hb hd hf
    by_cases hl : live1 lv d = true
    · rw [if_pos hl] at hr; rw [if_pos ⟨hl, rfl⟩, recR_yes hr hk]
    · rw [if_neg hl] at hr; rw [if_neg (fun h => hl h.1)]; unfold recR; rw [hr]
/-- a bench of n disks with power -/
structure LI (n : Nat) (W : Int) (c : Bn) : Prop where
  pw : Pw c
  len : c.ds.length = n
  p : ∀ d ∈ c.ds, d.p.length ≤ 1000000
  w : 0 ≤ c.writes ∧ c.writes ≤ W
theorem LI.fresh (n : Nat) : LI n 0 (fresh n) := ⟨(Up.fresh n).pw, fresh_len n, fresh_p n, ⟨Int.le_refl _, Int.le_refl _⟩⟩
theorem LI.put {n : Nat} {W : Int} {c : Bn} (h : LI n W c) (lv : List Bool) {s : Int} {l : List RI} (hk : rok s l = true) (hb : ∀ x ∈ l, ∀ y ∈ x.b, y < 256) : LI n (W + ((4 * n : Nat) : Int)) (putR c lv (renc s l)) := by
  obtain ⟨_, hn3, _⟩ := (rok_iff s l).1 hk
  obtain ⟨u1, w1, w2, l1, f1, k1, p1⟩ := putR_spec h.pw lv (all := renc s l) (renc_32 hn3 (rok_fine hk)) (renc_byte hb) (renc_len hn3)
  have hw := h.w
  have hl := h.len
  refine ⟨u1, l1.trans hl, fun d hd => ?_, ⟨by omega, by rw [hl] at w2; omega⟩⟩
  obtain ⟨i, hi, rfl⟩ := List.getElem_of_mem hd
  have hi3 : i < c.ds.length := by rw [← l1]; exact hi
  have := p1 i hi3
  rw [at1_eq hi, at1_eq hi3] at this
  have := h.p _ (List.getElem_mem hi3)
  omega
theorem Pw.lost {b : Bn} (h : Pw b) (i : Nat) : Pw { b with ds := b.ds.set i D.fail } := ⟨h.down, h.left, fun d hd => by
  rcases List.mem_or_eq_of_mem_set hd with h1 | h1
  · exact h.ok d h1
  · rw [h1]; exact D.fail_ok⟩
def failD (c : Bn) (i : Nat) : Bn := { c with ds := c.ds.set i D.fail }
theorem LI.fail {n : Nat} {W : Int} {c : Bn} (h : LI n W c) (i : Nat) : LI n W (failD c i) := by
  refine ⟨h.pw.lost i, by show (List.set _ _ _).length = _; rw [List.length_set]; exact h.len, fun d hd => ?_, h.w⟩
  rcases List.mem_or_eq_of_mem_set hd with h1 | h1
  · exact h.p d h1
  · rw [h1]; exact Nat.zero_le _
theorem at1_fail {c : Bn} {i d : Nat} (hi : i < c.ds.length) : at1 (failD c i) d = if d = i then D.fail else at1 c d := at1_set hi c.writes
theorem failB_fail {c : Bn} {i d : Nat} (hi : i < c.ds.length) : failB (failD c i) d = (decide (d = i) || failB c d) := by
  show (at1 (failD c i) d).f = _
  rw [at1_fail hi]
  by_cases h : d = i
  · rw [if_pos h, decide_eq_true h]; rfl
  · rw [if_neg h, decide_eq_false h]; rfl
theorem rows4_same {c c' : Bn} {d : Nat} (hf : failB c' d = failB c d) (h : ∀ a, a < 6 → lookB c' d a = lookB c d a) : rows4 c' d 4 = rows4 c d 4 := by
  show [rd _ d 0, rd _ d 1, rd _ d 2, rd _ d 3] = [rd _ d 0, rd _ d 1, rd _ d 2, rd _ d 3]
  have e : ∀ i, i < 4 → rd c' d i = rd c d i := fun i hi => by unfold rd; rw [hf, h (2 + i) (by omega)]
  rw [e 0 (by decide), e 1 (by decide), e 2 (by decide), e 3 (by decide)]
theorem recR_same {c c' : Bn} {d : Nat} (hf : failB c' d = failB c d) (h : ∀ a, a < 6 → lookB c' d a = lookB c d a) : recR c' d = recR c d := by
  unfold recR; rw [rows4_same hf h]
theorem recR_fail {c : Bn} {i d : Nat} (hi : i < c.ds.length) : recR (failD c i) d = if d = i then (0, []) else recR c d := by
  by_cases h : d = i
  · rw [if_pos h]; exact rows_failed (by rw [failB_fail hi, decide_eq_true h]; rfl)
  · rw [if_neg h]
    refine recR_same (by rw [failB_fail hi, decide_eq_false h]; rfl) (fun a _ => ?_)
    show D.look (at1 (failD c i) d) a = D.look (at1 c d) a
    rw [at1_fail hi, if_neg h]
theorem recR_fresh (n d : Nat) : recR (fresh n) d = (0, []) := recR_no (rows4_zeros (fresh_look n d 2 (by decide)))
end B
/-- the law's three steps -/
theorem one_best {c : B.Bn} {W : Int} (h : B.LI 3 W c) (hf : ∀ d, d < 3 → B.failB c d = false) (h0 : ∀ d, d < 3 → B.recR c d = (3, [])) {L : List RI} (hk : rok 10 L = true) (hb : ∀ x ∈ L, ∀ y ∈ x.b, y < 256) {o : Nat} (ho : o < 3) :
    B.bestR (B.putR c (lvG o) (renc 10 L)) (onL [true, true, true] 3) = (10, L) := by
  refine B.best_of (show (0 : Int) < 10 by decide) (fun d hd => ?_) ⟨o, ?_, ?_⟩
  · have hd3 := (onL_lt hd).1
    rw [B.recR_put h.pw _ hk hb (by rw [h.len]; exact hd3)]
    split
    · exact .inl rfl
    · rw [h0 d hd3]; exact .inr (show (3 : Int) < 10 by decide)
  · have : o = 0 ∨ o = 1 ∨ o = 2 := by omega
    rcases this with rfl | rfl | rfl <;> decide
  · rw [B.recR_put h.pw _ hk hb (by rw [h.len]; exact ho), if_pos ⟨by rw [lvG_live ho]; exact decide_eq_true rfl, hf o ho⟩]
theorem live3 {d : Nat} (hd : d < 3) : B.live1 [true, true, true] d = true := by
  have : d = 0 ∨ d = 1 ∨ d = 2 := by omega
  rcases this with rfl | rfl | rfl <;> rfl
theorem one_lost {c : B.Bn} {W : Int} (h : B.LI 3 W c) (hf : ∀ d, d < 3 → B.failB c d = false) {L : List RI} (hk : rok 10 L = true) (hb : ∀ x ∈ L, ∀ y ∈ x.b, y < 256) {o : Nat} (ho : o < 3) :
    B.bestR (B.failD (B.putR c [true, true, true] (renc 10 L)) o) (onL [true, true, true] 3) = (10, L) := by
  have hl := (h.put [true, true, true] hk hb).len
  refine B.best_of (show (0 : Int) < 10 by decide) (fun d hd => ?_) ?_
  · have hd3 := (onL_lt hd).1
    rw [B.recR_fail (by rw [hl]; exact ho)]
    split
    · exact .inr (show (0 : Int) < 10 by decide)
    · rw [B.recR_put h.pw _ hk hb (by rw [h.len]; exact hd3), if_pos ⟨live3 hd3, hf d hd3⟩]; exact .inl rfl
  · refine ⟨if o = 0 then 1 else 0, by split <;> decide, ?_⟩
    rw [B.recR_fail (by rw [hl]; exact ho), if_neg (by split <;> omega), B.recR_put h.pw _ hk hb (by rw [h.len]; split <;> decide), if_pos ⟨live3 (by split <;> decide), hf _ (by split <;> decide)⟩]
end Go.Proofs.Ytenjpldinnbcbaa
/- Plain law of log.Apply: each item's bytes written at its place, on live disks that have not failed, and flushed. -/

namespace Go.Proofs.Ytenjpldinnbcbaa
open Go.RowKit C
set_option linter.unusedVariables false
set_option linter.unusedSimpArgs false
set_option maxRecDepth 100000
set_option maxHeartbeats 1000000

theorem snocInd {α : Type} {P : List α → Prop} (nil : P []) (snoc : ∀ l x, P l → P (l ++ [x])) (l : List α) : P l := by
  have h : ∀ m : List α, P m.reverse := by
    intro m
    induction m with
    | nil => exact nil
    | cons x m ih => rw [List.reverse_cons]; exact snoc _ _ ih
  have := h l.reverse
  rwa [List.reverse_reverse] at this
namespace B
/-- is an item for a live disk of the bench? -/
def tak (n : Nat) (lv : List Bool) (x : RI) : Bool := decide (x.d < (n : Int)) && live1 lv x.d.toNat
def aS (n : Nat) (lv : List Bool) (c : Bn) (x : RI) : Bn := if tak n lv x then write c x.d x.a x.b else c
def aF (n : Nat) (lv : List Bool) (c : Bn) (l : List RI) : Bn := l.foldl (aS n lv) c
def onA (n : Nat) (lv : List Bool) (l : List RI) : List Nat := (l.filter (tak n lv)).map (fun x => x.d.toNat)
def applyB (c : Bn) (lv : List Bool) (l : List RI) : Bn := (onA c.ds.length lv l).foldl flS (aF c.ds.length lv c l)
theorem onA_snoc (n : Nat) (lv : List Bool) (l : List RI) (x : RI) : onA n lv (l ++ [x]) = onA n lv l ++ (if tak n lv x then [x.d.toNat] else []) := by
  unfold onA
  rw [List.filter_append, List.map_append]
  congr 1
  rw [List.filter_cons]
  split <;> rfl
theorem aF_snoc (n : Nat) (lv : List Bool) (c : Bn) (l : List RI) (x : RI) : aF n lv c (l ++ [x]) = aS n lv (aF n lv c l) x := by unfold aF; rw [List.foldl_append]; rfl
theorem tak_lt {n : Nat} {lv : List Bool} {x : RI} (h : tak n lv x = true) (h0 : 0 ≤ x.d) : x.d.toNat < n ∧ live1 lv x.d.toNat = true := by
  unfold tak at h
  rw [Bool.and_eq_true] at h
  have := of_decide_eq_true h.1
  exact ⟨by omega, h.2⟩
theorem onA_lt {n : Nat} {lv : List Bool} {l : List RI} (hl : ∀ x ∈ l, 0 ≤ x.d) : ∀ d ∈ onA n lv l, d < n := by
  intro d hd
  unfold onA at hd
  obtain ⟨x, hx, rfl⟩ := List.mem_map.1 hd
  have := List.mem_filter.1 hx
  exact (tak_lt this.2 (hl x this.1)).1
theorem onA_len (n : Nat) (lv : List Bool) (l : List RI) : (onA n lv l).length ≤ l.length := by
  unfold onA; rw [List.length_map]; exact List.length_filter_le _ _
/-- what an item changes -/
def lkS (n : Nat) (lv : List Bool) (c : Bn) (d a : Nat) (z : List Nat) (x : RI) : List Nat := if tak n lv x = true ∧ x.d.toNat = d ∧ x.a.toNat = a ∧ failB c d = false then x.b else z
theorem aF_spec {c : Bn} (h : Pw c) (lv : List Bool) : ∀ l : List RI, (∀ x ∈ l, x.fine = true) → (∀ x ∈ l, ∀ y ∈ x.b, y < 256) →
    Pw (aF c.ds.length lv c l) ∧ (aF c.ds.length lv c l).ds.length = c.ds.length ∧ c.writes ≤ (aF c.ds.length lv c l).writes ∧ (aF c.ds.length lv c l).writes ≤ c.writes + (l.length : Int) ∧
    (∀ i, failB (aF c.ds.length lv c l) i = failB c i) ∧ (∀ i, (at1 (aF c.ds.length lv c l) i).p.length ≤ (at1 c i).p.length + l.length) ∧
    (∀ i, i ∉ onA c.ds.length lv l → at1 (aF c.ds.length lv c l) i = at1 c i) ∧ (∀ i, failB c i = true → at1 (aF c.ds.length lv c l) i = at1 c i) ∧
    ∀ i a, i < c.ds.length → lookB (aF c.ds.length lv c l) i a = l.foldl (lkS c.ds.length lv c i a) (lookB c i a) := by
  intro l
  induction l using snocInd with
  | nil => intro _ _; exact ⟨h, rfl, Int.le_refl _, by show c.writes ≤ c.writes + ((0 : Nat) : Int); omega, fun _ => rfl, fun _ => Nat.le_refl _, fun _ _ => rfl, fun _ _ => rfl, fun _ _ _ => rfl⟩
  | snoc l x ih =>
    intro hf hb
    obtain ⟨u, e1, w1, w2, f1, p1, n1, n2, k1⟩ := ih (fun y hy => hf y (List.mem_append_left _ hy)) (fun y hy => hb y (List.mem_append_left _ hy))
    have hx := (RI.fine_iff x).1 (hf x (by simp))
    have hxb := hb x (by simp)
    obtain ⟨b, hbq⟩ : ∃ b, b = aF c.ds.length lv c l := ⟨_, rfl⟩
    rw [aF_snoc]
    rw [← hbq] at u e1 w1 w2 f1 p1 n1 n2 k1 ⊢
    have hlen : (l ++ [x]).length = l.length + 1 := by simp
    rw [hlen]
    unfold aS
    cases ht : tak c.ds.length lv x with
    | false =>
      rw [if_neg (by decide)]
      refine ⟨u, e1, w1, by omega, f1, fun i => by have := p1 i; omega, fun i hi => n1 i (fun h => hi (by rw [onA_snoc]; exact List.mem_append_left _ h)), n2, fun i a hi => ?_⟩
      rw [List.foldl_append, ← k1 i a hi]
      show _ = lkS _ _ _ _ _ _ _
      unfold lkS
      rw [if_neg (fun h => by rw [ht] at h; cases h.1)]
    | true =>
      rw [if_pos rfl]
      obtain ⟨hm, hlv⟩ := tak_lt ht hx.1.1
      have hmb : x.d.toNat < b.ds.length := by rw [e1]; exact hm
      have ha : x.a.toNat < 52 := by omega
      obtain ⟨_, hw⟩ := u.write1 hmb ha hx.2.2
      have ed : ((x.d.toNat : Nat) : Int) = x.d := Int.toNat_of_nonneg hx.1.1
      have ea : ((x.a.toNat : Nat) : Int) = x.a := Int.toNat_of_nonneg (by omega)
      rw [ed, ea, f1] at hw
      rw [hw]
      cases hq : failB c x.d.toNat with
      | true =>
        rw [if_pos rfl]
        refine ⟨u, e1, w1, by omega, f1, fun i => by have := p1 i; omega, fun i hi => n1 i (fun h => hi (by rw [onA_snoc]; exact List.mem_append_left _ h)), n2, fun i a hi => ?_⟩
        rw [List.foldl_append, ← k1 i a hi]
        show _ = lkS _ _ _ _ _ _ _
        unfold lkS
        rw [if_neg (fun h => by
          obtain ⟨_, h2, _, h4⟩ := h
          rw [h2, h4] at hq; cases hq)]
      | false =>
        rw [if_neg (by decide)]
        have hat : ∀ i, at1 { b with writes := b.writes + 1, ds := b.ds.set x.d.toNat (D.write (at1 b x.d.toNat) x.a.toNat x.b) } i = if i = x.d.toNat then D.write (at1 b x.d.toNat) x.a.toNat x.b else at1 b i := fun i => at1_set hmb _
        refine ⟨⟨u.down, u.left, fun d hd => ?_⟩, by show (List.set _ _ _).length = _; rw [List.length_set]; exact e1, by show c.writes ≤ b.writes + 1; omega, by show b.writes + 1 ≤ _; omega, fun i => ?_, fun i => ?_, fun i hi => ?_, fun i hi => ?_, fun i a hi => ?_⟩
        · rcases List.mem_or_eq_of_mem_set hd with h1 | h1
          · exact u.ok d h1
          · rw [h1, at1_eq hmb]; exact D.write_ok (u.ok _ (List.getElem_mem hmb)) ha hx.2.2 hxb
        · show (at1 _ i).f = _
          rw [hat]
          by_cases hi : i = x.d.toNat
          · rw [if_pos hi, ← f1 i, hi]; rfl
          · rw [if_neg hi]; exact f1 i
        · rw [hat]
          by_cases hi : i = x.d.toNat
          · rw [if_pos hi]
            have := p1 i
            rw [← hi]
            show ((at1 b i).p ++ [_]).length ≤ _
            rw [List.length_append]
            show (at1 b i).p.length + 1 ≤ _
            omega
          · rw [if_neg hi]; have := p1 i; omega
        · rw [onA_snoc, ht, if_pos rfl] at hi
          rw [hat, if_neg (fun e => hi (List.mem_append_right _ (by rw [e]; simp)))]
          exact n1 i (fun h => hi (List.mem_append_left _ h))
        · rw [hat, if_neg (fun e => by rw [e, hq] at hi; cases hi)]
          exact n2 i hi
        · rw [List.foldl_append, ← k1 i a hi]
          show D.look (at1 _ i) a = lkS _ _ _ _ _ _ _
          rw [hat]
          unfold lkS
          by_cases hi2 : i = x.d.toNat
          · rw [if_pos hi2]
            by_cases ha2 : x.a.toNat = a
            · rw [if_pos ⟨ht, hi2.symm, ha2, by rw [hi2]; exact hq⟩, ha2, D.look_write_same]
            · rw [if_neg (fun h => ha2 h.2.2.1), D.look_write_other _ _ ha2, hi2]; rfl
          · rw [if_neg hi2, if_neg (fun h => hi2 h.2.1.symm)]; rfl
theorem flush_p (d : D.Dk) : (D.flushed d).p = if d.f then d.p else [] := by unfold D.flushed; split <;> rfl
theorem flS_at {c : Bn} {d : Nat} (hd : d < c.ds.length) (i : Nat) : at1 (flS c d) i = if i = d then D.flushed (at1 c d) else at1 c i := by
  have hdk : dk c (d : Int) = at1 c d := by rw [at1_eq hd]; exact dk_nat (List.getElem?_eq_getElem hd)
  show at1 { c with ds := c.ds.set d (D.flushed (dk c (d : Int))) } i = _
  rw [hdk]
  exact at1_set hd c.writes
theorem flF_spec {c : Bn} (h : Pw c) : ∀ T : List Nat, (∀ d ∈ T, d < c.ds.length) →
    (T.foldl flS c).writes = c.writes ∧ (∀ i, failB (T.foldl flS c) i = failB c i) ∧ (∀ i, (at1 (T.foldl flS c) i).p.length ≤ (at1 c i).p.length) ∧ (∀ i, i ∉ T → at1 (T.foldl flS c) i = at1 c i) ∧
    (∀ i, i ∈ T → failB c i = false → (at1 (T.foldl flS c) i).p = []) ∧ (∀ i a, i < c.ds.length → a < 52 → lookB (T.foldl flS c) i a = lookB c i a) ∧ ∀ i, failB c i = true → at1 (T.foldl flS c) i = at1 c i := by
  intro T
  induction T using snocInd with
  | nil => intro _; exact ⟨rfl, fun _ => rfl, fun _ => Nat.le_refl _, fun _ _ => rfl, fun i hi => (by cases hi), fun _ _ _ _ => rfl, fun _ _ => rfl⟩
  | snoc T d ih =>
    intro hT
    obtain ⟨w1, f1, p1, n1, q1, k1, z1⟩ := ih (fun e he => hT e (List.mem_append_left _ he))
    obtain ⟨u, l⟩ := flF_pw h (T := T) (fun e he => hT e (List.mem_append_left _ he))
    have hd := hT d (by simp)
    rw [List.foldl_append]
    obtain ⟨b, hb⟩ : ∃ b, b = T.foldl flS c := ⟨_, rfl⟩
    rw [← hb] at w1 f1 p1 n1 q1 k1 z1 u l ⊢
    have hdb : d < b.ds.length := by rw [l]; exact hd
    have hat := flS_at hdb
    show (flS b d).writes = _ ∧ _
    refine ⟨w1, fun i => ?_, fun i => ?_, fun i hi => ?_, fun i hi hf => ?_, fun i a hi ha => ?_, fun i hf => ?_⟩
    · show (at1 (flS b d) i).f = _
      rw [hat]
      by_cases h : i = d
      · rw [if_pos h, flushed_f, ← h]; exact f1 i
      · rw [if_neg h]; exact f1 i
    · show (at1 (flS b d) i).p.length ≤ _
      rw [hat]
      by_cases h : i = d
      · rw [if_pos h, flush_p, ← h]
        have := p1 i
        split
        · exact this
        · exact Nat.zero_le _
      · rw [if_neg h]; exact p1 i
    · show at1 (flS b d) i = _
      rw [hat, if_neg (fun e => hi (by rw [e]; simp))]
      exact n1 i (fun h => hi (List.mem_append_left _ h))
    · show (at1 (flS b d) i).p = _
      rw [hat]
      by_cases h : i = d
      · rw [if_pos h, flush_p, ← h, if_neg (by have := f1 i; unfold failB at this hf; rw [show (at1 b i).f = false from this.trans hf]; decide)]
      · rw [if_neg h]
        exact q1 i (by
          rcases List.mem_append.1 hi with h2 | h2
          · exact h2
          · exact absurd (List.mem_singleton.1 h2) h) hf
    · show D.look (at1 (flS b d) i) a = _
      rw [hat, ← k1 i a hi ha]
      by_cases h : i = d
      · rw [if_pos h, ← h]
        show D.look (D.flushed (at1 b i)) a = D.look (at1 b i) a
        unfold D.flushed
        split
        · rfl
        · exact D.look_flush (by rw [at1_eq (by rw [l]; exact hi)]; exact u.ok _ (List.getElem_mem _)) ha
      · rw [if_neg h]; rfl
    · show at1 (flS b d) i = _
      rw [hat]
      by_cases h : i = d
      · rw [if_pos h, ← h]
        have hfi : (at1 b i).f = true := (f1 i).trans hf
        unfold D.flushed
        rw [if_pos hfi]
        exact z1 i hf
      · rw [if_neg h]; exact z1 i hf
/-- what stands behind an Apply -/
theorem apply_spec {c : Bn} (h : Pw c) (lv : List Bool) {l : List RI} (hf : ∀ x ∈ l, x.fine = true) (hb : ∀ x ∈ l, ∀ y ∈ x.b, y < 256) :
    Pw (applyB c lv l) ∧ (applyB c lv l).ds.length = c.ds.length ∧ c.writes ≤ (applyB c lv l).writes ∧ (applyB c lv l).writes ≤ c.writes + (l.length : Int) ∧
    (∀ i, failB (applyB c lv l) i = failB c i) ∧ (∀ i, (at1 c i).p = [] → (at1 (applyB c lv l) i).p = []) ∧
    ∀ i a, i < c.ds.length → a < 52 → lookB (applyB c lv l) i a = l.foldl (lkS c.ds.length lv c i a) (lookB c i a) := by
  obtain ⟨u, e1, w1, w2, f1, p1, n1, n2, k1⟩ := aF_spec h lv l hf hb
  have hlt : ∀ d ∈ onA c.ds.length lv l, d < (aF c.ds.length lv c l).ds.length := fun d hd => by rw [e1]; exact onA_lt (fun x hx => ((RI.fine_iff x).1 (hf x hx)).1.1) d hd
  obtain ⟨v1, g1, r1, m1, q1, t1, z1⟩ := flF_spec u (onA c.ds.length lv l) hlt
  obtain ⟨u2, l2⟩ := flF_pw u hlt
  refine ⟨u2, l2.trans e1, by show _ ≤ Bn.writes (List.foldl _ _ _); rw [v1]; exact w1, by show Bn.writes (List.foldl _ _ _) ≤ _; rw [v1]; exact w2, fun i => (g1 i).trans (f1 i), fun i hi => ?_, fun i a hi ha => (t1 i a (by rw [e1]; exact hi) ha).trans (k1 i a hi)⟩
  show (at1 (List.foldl _ _ _) i).p = []
  cases hq : failB c i with
  | true => rw [z1 i (by rw [f1]; exact hq), n2 i hq]; exact hi
  | false =>
    by_cases hm : i ∈ onA c.ds.length lv l
    · exact q1 i hm (by rw [f1]; exact hq)
    · rw [m1 i hm, n1 i hm]; exact hi
end B
end Go.Proofs.Ytenjpldinnbcbaa
/- Items that lie apart from a set of blocks; log.Put and log.Apply of a record that may not be. -/

namespace Go.Proofs.Ytenjpldinnbcbaa
open Go.RowKit C
set_option linter.unusedVariables false
set_option linter.unusedSimpArgs false
set_option maxRecDepth 100000
set_option maxHeartbeats 1000000

def IA (S : Nat → Prop) (w : World) (v : Value) (l : List RI) : Prop :=
  ∃ ao cap, v = .slice ao l.length cap ∧ l.length ≤ cap ∧ cap ≤ maxLen ∧ (ao = none → cap = 0) ∧ (l = [] ∨ ∃ b off, ao = some ⟨b, off, none⟩ ∧ b < w.heap.size ∧ ¬ S b ∧ ∀ i x, l[i]? = some x → ∃ u, Itm w b (off + i * 3) x u ∧ (x.b ≠ [] → ∀ y, u.ownBlock = some y → ¬ S y))
theorem IA.items {S : Nat → Prop} {w : World} {v : Value} {l : List RI} (h : IA S w v l) : Items w v l := by
  obtain ⟨ao, cap, e, h1, h2, h0, h3⟩ := h
  refine ⟨ao, cap, e, h1, h2, h0, ?_⟩
  rcases h3 with h3 | ⟨b, off, e1, hl, _, hc⟩
  · exact .inl h3
  · exact .inr ⟨b, off, e1, hl, fun i x hx => let ⟨u, hu, _⟩ := hc i x hx; ⟨u, hu⟩⟩
theorem IA.step {S S' : Nat → Prop} {w w' : World} {v : Value} {l : List RI} (h : IA S w v l) (k : Fr S w w') (hS : ∀ y, S' y → S y ∨ w.heap.size ≤ y) : IA S' w' v l := by
  obtain ⟨ao, cap, e, h1, h2, h0, h3⟩ := h
  refine ⟨ao, cap, e, h1, h2, h0, ?_⟩
  rcases h3 with h3 | ⟨b, off, e1, hl, hb, hc⟩
  · exact .inl h3
  · refine .inr ⟨b, off, e1, Nat.lt_of_lt_of_le hl k.size, fun hs => ?_, fun i x hx => ?_⟩
    · rcases hS b hs with h | h
      · exact hb h
      · omega
    · obtain ⟨u, ⟨c0, c1, c2, c3, c4⟩, hu⟩ := hc i x hx
      refine ⟨u, ⟨cell_fr c0 k hb, cell_fr c1 k hb, cell_fr c2 k hb, c3.frN k hu, c4⟩, fun hn y hy hs => ?_⟩
      rcases hS y hs with h | h
      · exact hu hn y hy h
      · have := c3.blkN hn hy; omega
theorem IA.up {S : Nat → Prop} {w w' : World} {v : Value} {l : List RI} (h : IA S w v l) (k : Below w.heap.size w w') : IA S w' v l := by
  obtain ⟨ao, cap, e, h1, h2, h0, h3⟩ := h
  refine ⟨ao, cap, e, h1, h2, h0, ?_⟩
  rcases h3 with h3 | ⟨b, off, e1, hl, hb, hc⟩
  · exact .inl h3
  · exact .inr ⟨b, off, e1, Nat.lt_of_lt_of_le hl k.size, hb, fun i x hx => let ⟨u, hu, hx2⟩ := hc i x hx; ⟨u, hu.up k hl, hx2⟩⟩
theorem IA.get {S : Nat → Prop} {w : World} {ao : Option Addr} {n cap : Nat} {l : List RI} (h : IA S w (.slice ao n cap) l) {k : Nat} (hk : k < n) :
    ∃ b off x u, ao = some ⟨b, off, none⟩ ∧ b < w.heap.size ∧ Hid (l[k]? = some x) ∧ Itm w b (off + k * 3) x u ∧ (x.b ≠ [] → ∀ y, u.ownBlock = some y → ¬ S y) := by
  obtain ⟨ao', cap', e, h1, h2, h0, h3⟩ := h
  cases e
  rcases h3 with rfl | ⟨b, off, rfl, hlt, hb, hc⟩
  · simp at hk
  · obtain ⟨u, hu, hx⟩ := hc k _ (List.getElem?_eq_getElem hk)
    exact ⟨b, off, l[k], u, rfl, hlt, List.getElem?_eq_getElem hk, hu, hx⟩
theorem OwnI.ia {e : TypeId} {w : World} {base : Nat} {v : Value} {T : List (RI × Value)} (h : OwnI e w base v T) (hf : ∀ q ∈ T, ∀ b, q.2.ownBlock = some b → base ≤ b) {S : Nat → Prop} (hS : ∀ y, S y → y < base) : IA S w v (T.map Prod.fst) := by
  rcases h.1.2 with ⟨rfl, hn⟩ | ⟨g, cap, cur, rfl, h3, hg, h4, h5, _⟩
  · have : T = [] := List.eq_nil_of_length_eq_zero hn
    subst this
    exact ⟨none, 0, rfl, Nat.le_refl _, by simp [maxLen], fun _ => rfl, .inl rfl⟩
  · refine ⟨_, cap, by rw [List.length_map], by rw [List.length_map]; exact h4, h5, fun e => (by cases e), .inr ⟨g, 0, rfl, lt_of_block hg, fun hs => by have := hS g hs; omega, fun i x hx => ?_⟩⟩
    rw [List.getElem?_map] at hx
    obtain ⟨p, hp, rfl⟩ := Option.map_eq_some_iff.1 hx
    obtain ⟨c0, c1, c2⟩ := h.cellsAt hp
    have hgp := h.2 p (List.mem_of_getElem? hp)
    exact ⟨p.2, ⟨by rw [Nat.zero_add]; exact c0, by rw [Nat.zero_add]; exact c1, by rw [Nat.zero_add]; exact c2, hgp.1, hgp.2.1⟩, fun _ y hy hs => by have := hf p (List.mem_of_getElem? hp) y hy; have := hS y hs; omega⟩
theorem ItemsF.ia {w : World} {base : Nat} {v : Value} {l : List RI} (h : ItemsF w base v l) {S : Nat → Prop} (hS : ∀ y, S y → y < base) : IA S w v l := by
  obtain ⟨T, rfl, o, f⟩ := h
  exact o.ia f hS
attribute [local irreducible] Go.Calls Byt Own Parts PA BA Bools OwnD OwnT OwnZ Items IA
theorem lput_no (w : World) (g : Nat) (vv : Value) (s : Int) (v : Value) (l : List RI) (hs : i64b s) (hI : Items w v l) (hk : rok s l = false) :
    Calls Try.prog 29 #[.pointer (some ⟨g, 0, none⟩), vv, .agg #[.int .i64 s, v]] w fun r w' => r = .returned (.int .i64 1) ∧ Below w.heap.size w w' := by
  have HE := Lib.hid (fun (o : Obj) => rencode_no s v l (w.alloc o) hs (hI.up (belA1 (belR _))) hk)
  obtain ⟨ai, ci, rfl, _, _⟩ := hI.shape
  clear hI hk hs
  go_enter Try.func29, Try.ntmps29
  go_wp2_with fail
  refine Calls.mono (HE.out _) ?_
  rintro r w2 ⟨rfl, b2⟩
  have B2 := belT (belA1 (belR w)) b2
  clear b2
  go_wp2
  go_ret
  exact ⟨rfl, B2⟩
theorem lapply_no (w : World) (g : Nat) (vv : Value) (s : Int) (v : Value) (l : List RI) (hs : i64b s) (hI : Items w v l) (hk : rok s l = false) :
    Calls Try.prog 35 #[.pointer (some ⟨g, 0, none⟩), vv, .agg #[.int .i64 s, v]] w fun r w' => r = .returned (.int .i64 1) ∧ Below w.heap.size w w' := by
  have HE := fun (o : Obj) => rcheck_any s v l (w.alloc o) hs (hI.up (belA1 (belR _)))
  rw [rerr_no hk] at HE
  have HE := Lib.hid HE
  obtain ⟨ai, ci, rfl, _, _⟩ := hI.shape
  clear hI hk hs
  go_enter Try.func35, Try.ntmps35
  go_wp2_with fail
  refine Calls.mono (HE.out _) ?_
  rintro r w2 ⟨rfl, b2⟩
  have B2 := belT (belA1 (belR w)) b2
  clear b2
  go_wp2
  go_ret
  exact ⟨rfl, B2⟩
end Go.Proofs.Ytenjpldinnbcbaa
