/- The walk of bench's Replace; what four disks have behind so many writes in turn. -/
import Derived.Test.YtggljcdkiaggeaaPow
import Derived.Deep.RegionHeld3
import Derived.Deep.DrawnRows
namespace Go.Proofs.Ytggljcdkiaggeaa
open Go.RowKit
set_option linter.unusedVariables false
set_option linter.unusedSimpArgs false
set_option maxRecDepth 100000
set_option maxHeartbeats 1000000
attribute [local go_sem ↓] Go.wp_at_zero Go.wp_at_succ

/-- another disk in the place of one -/
theorem IsBench.swap {w w2 : World} {base g n cap bl i : Nat} {gd : Nat} {dd : D.Dk} {hs : List (Nat × Value)} {b : B.Bn} (h : IsBench w base g (.slice (some ⟨bl, 0, none⟩) n cap) hs b) (hi : i < hs.length) (hb : Below w.heap.size w w2) (hd : IsDisk w2 base gd (.slice none 0 0) dd) (hnew : w.heap.size ≤ gd) :
    IsBench (w2.setCell ⟨bl, i, none⟩ (.pointer (some ⟨gd, 0, none⟩))) base g (.slice (some ⟨bl, 0, none⟩) n cap) (hs.set i (gd, .slice none 0 0)) { b with ds := b.ds.set i dd } ∧ Fr (ofB g (.slice (some ⟨bl, 0, none⟩) n cap) hs) w (w2.setCell ⟨bl, i, none⟩ (.pointer (some ⟨gd, 0, none⟩))) ∧
      ∀ y, ofB g (.slice (some ⟨bl, 0, none⟩) n cap) (hs.set i (gd, .slice none 0 0)) y → ofB g (.slice (some ⟨bl, 0, none⟩) n cap) hs y ∨ w.heap.size ≤ y := by
  have hu := h.up hb
  have hFc : Fr (fun x => x = bl) w2 (w2.setCell ⟨bl, i, none⟩ (.pointer (some ⟨gd, 0, none⟩))) := Fr.cell ⟨bl, i, none⟩ _
  have hbl : bl < w.heap.size := (h.row.lt bl rfl).2
  have hgb : ¬ g = bl := fun e => h.ap (by rw [e]; rfl)
  have hget : ∀ (j : Nat) (y : Nat × Value), (hs.set i (gd, Value.slice none 0 0))[j]? = some y → (j = i ∧ y = (gd, .slice none 0 0)) ∨ (j ≠ i ∧ hs[j]? = some y) := fun j y hy => by
    by_cases e : i = j
    · subst e
      rw [List.getElem?_set_self hi] at hy
      exact .inl ⟨rfl, (Option.some.inj hy).symm⟩
    · rw [List.getElem?_set_ne e] at hy
      exact .inr ⟨fun h => e h.symm, hy⟩
  have hold : ∀ (j : Nat) (y : Nat × Value), hs[j]? = some y → ∀ x, ofD y.1 y.2 x → x < w.heap.size := fun j y hy x hx => h.lts x (.inr (.inr ⟨j, y, hy, hx⟩))
  have hn : n = hs.length := by
    rcases h.row.2 with ⟨e, _⟩ | ⟨b', c', cu, e, _⟩
    · cases e
    · cases e; rfl
  subst hn
  obtain ⟨r1, r2, r3, r4⟩ := RowAt.of_own hu.row
  refine ⟨⟨h.ge, Nat.lt_of_lt_of_le hu.lt hFc.size, rangeAt_fr hu.cells hFc hgb, there_fr hu.there hFc hgb, ?_, by simp [h.len], ?_, ?_, ?_, h.ap⟩, ((Fr.of_below hb).trans (hFc.mono (fun x hx => .inr (.inl (by rw [hx]; rfl))))), ?_⟩
  · rw [List.length_set]
    have hr := rangeAt_setCell (v := .pointer (some ⟨gd, 0, none⟩)) r2 (o := i) (by simpa using hi)
    have e : (hs.set i (gd, Value.slice none 0 0)).map hptr = (hs.map hptr).set i (.pointer (some ⟨gd, 0, none⟩)) := by rw [List.map_set]; rfl
    rw [e]
    exact RowAt.own (RowAt.setCells bl [_] i r1) hr (by simp) (h.row.lt bl rfl).1 r3 r4
  · intro j y d hy hd2
    rcases hget j y hy with ⟨rfl, rfl⟩ | ⟨hj, hy⟩
    · rw [List.getElem?_set_self (by rw [← h.len]; exact hi)] at hd2
      cases hd2
      exact hd.fr hFc (fun x hx e => by rcases hx with rfl | hx; omega; cases hx)
    · rw [List.getElem?_set_ne (fun e => hj e.symm)] at hd2
      exact (hu.disk j y d hy hd2).fr hFc (fun x hx e => (h.own j y hy x hx).2 (by rw [e]; rfl))
  · intro j l y z hy hz hjl x hx hx2
    rcases hget j y hy with ⟨ej, ey⟩ | ⟨hj, hy2⟩
    · rcases hget l z hz with ⟨el, ez⟩ | ⟨hl, hz2⟩
      · exact hjl (ej.trans el.symm)
      · rw [ey] at hx
        have := hold l z hz2 x hx2
        rcases hx with rfl | hx
        · omega
        · cases hx
    · rcases hget l z hz with ⟨el, ez⟩ | ⟨hl, hz2⟩
      · rw [ez] at hx2
        have := hold j y hy2 x hx
        rcases hx2 with rfl | hx2
        · omega
        · cases hx2
      · exact h.apart j l y z hy2 hz2 hjl x hx hx2
  · intro j y hy x hx
    rcases hget j y hy with ⟨ej, ey⟩ | ⟨hj, hy2⟩
    · rw [ey] at hx
      rcases hx with rfl | hx
      · refine ⟨fun e => by have := h.lt; omega, fun e => ?_⟩
        have e2 : bl = x := Option.some.inj e
        omega
      · cases hx
    · exact h.own j y hy2 x hx
  · intro x hx
    rcases hx with hx | hx | ⟨j, y, hy, hx⟩
    · exact .inl (.inl hx)
    · exact .inl (.inr (.inl hx))
    · rcases hget j y hy with ⟨ej, ey⟩ | ⟨hj, hy2⟩
      · rw [ey] at hx
        rcases hx with rfl | hx
        · exact .inr hnew
        · cases hx
      · exact .inl (.inr (.inr ⟨j, y, hy2, hx⟩))
theorem brep_no (w : World) (base g : Nat) (lv : Value) (hs : List (Nat × Value)) (b : B.Bn) (i : Nat) (h : IsBench w base g lv hs b) (hi : i < b.ds.length) (hf : (B.dk b i).f = false) :
    Calls Try.prog 46 #[.pointer (some ⟨g, 0, none⟩), .int .i64 i] w fun e w' => e = .returned (.int .i64 9) ∧ w = w' := by
  have HC := bis_any w base g lv hs b (i : Int) h
  rw [show B.is b (i : Int) = true from decide_eq_true ⟨by omega, by omega⟩] at HC
  have HC := Lib.hid HC
  have hc := h.cell.2.2.2
  obtain ⟨ao, cap, rfl, hcap, _⟩ := h.shape
  obtain ⟨bl, k, dk, rfl, hcell, hk, hdk, hD⟩ := h.get (i := i) hi
  rw [B.dk_nat hdk] at hf
  have HF := Lib.hid hf
  have HD := Lib.hid hD
  clear h hk hdk hD hf
  go_enter Try.func46, Try.ntmps46
  go_wp2_with fail
  refine Calls.mono HC.out ?_
  rintro e w1 ⟨rfl, rfl⟩
  go_wp2_with fail
  refine Calls.mono (failed_any w _ _ _ _ HD.out) ?_
  rw [HF.out]
  rintro e w2 ⟨rfl, rfl⟩
  go_wp2
  go_ret
  exact ⟨rfl, rfl⟩
theorem brep_yes (w : World) (base g : Nat) (lv : Value) (hs : List (Nat × Value)) (b : B.Bn) (i : Nat) (h : IsBench w base g lv hs b) (hi : i < b.ds.length) (hf : (B.dk b i).f = true) (hb0 : base ≤ w.heap.size) :
    Calls Try.prog 46 #[.pointer (some ⟨g, 0, none⟩), .int .i64 i] w fun e w' => e = .returned (.int .i64 0) ∧ ∃ hs', IsBench w' base g lv hs' { b with ds := b.ds.set i D.blank } ∧ Fr (ofB g lv hs) w w' ∧ ∀ y, ofB g lv hs' y → ofB g lv hs y ∨ w.heap.size ≤ y := by
  have HC := bis_any w base g lv hs b (i : Int) h
  rw [show B.is b (i : Int) = true from decide_eq_true ⟨by omega, by omega⟩] at HC
  have HC := Lib.hid HC
  have hc := h.cell.2.2.2
  obtain ⟨ao, cap, rfl, hcap, _⟩ := h.shape
  obtain ⟨bl, k, dk, rfl, hcell, hk, hdk, hD⟩ := h.get (i := i) hi
  rw [B.dk_nat hdk] at hf
  have HF := Lib.hid hf
  have HD := Lib.hid hD
  have HH := Lib.hid h
  have hbg : ¬ g = bl := fun e => h.ap (by rw [e]; rfl)
  have hil : i < hs.length := by rw [h.len]; exact hi
  have hthr : w.frozen? ⟨bl, i, none⟩ = false := by
    obtain ⟨r1, _, r3, _⟩ := RowAt.of_own (n := hs.length) (by
      have hn : b.ds.length = hs.length := h.len.symm
      have := h.row
      rw [hn] at this
      exact this)
    exact there_frozen (r1.there) (by have : i < b.ds.length := hi; rw [← h.len] at this; omega)
  have HTH := Lib.hid hthr
  have hgl : g < w.heap.size := h.lt
  have hbll : bl < w.heap.size := (h.row.lt bl rfl).2
  clear h hk hdk hD hf hthr
  go_enter Try.func46, Try.ntmps46
  go_wp2_with fail
  refine Calls.mono HC.out ?_
  rintro e w1 ⟨rfl, rfl⟩
  go_wp2_with fail
  refine Calls.mono (failed_any w _ _ _ _ HD.out) ?_
  rw [HF.out]
  rintro e w2 ⟨rfl, rfl⟩
  go_wp2_with fail
  have hi0 : (0 : Int) ≤ (i : Int) := by omega
  have hi1 : (i : Int) < (b.ds.length : Int) := by omega
  have hBw : Below w.heap.size w w := belR _
  go_region_held3 (fun w' => w'.cell? ⟨g, 3, none⟩ = some (.slice (some ⟨bl, 0, none⟩) b.ds.length cap))
    ((first | assumption | (refine cell_fr (cell_fr hc (Fr.of_below (S := fun _ => False) (by iterate 6 try (first | assumption | apply belDr | apply belAlloc))) id) (Fr.cell _ _) hbg) | (refine cell_fr hc (Fr.of_below (S := fun _ => False) ?_) id; iterate 6 try (first | assumption | apply belDr | apply belAlloc))))
    ((go_at_call 14; refine Calls.mono (newI _) ?_; rintro e w2 ⟨rfl, D2, b2⟩; have hB2 : Below w.heap.size w w2 := (by first | exact b2 | exact belT (belDr (belR _)) b2); have hcw := cell_fr hcell (Fr.of_below (S := fun _ => False) hB2) id; have hzw : w2.frozen? ⟨bl, i, none⟩ = false := (by rw [World.frozen?_of_block (hB2.block bl hbll)]; exact HTH.out); have HSW := Lib.hid (HH.out.swap hil hB2 (D2.low hb0) (Nat.le_refl _))))
  all_goals
    go_wp2
    go_ret
    exact ⟨rfl, _, HSW.out.1, HSW.out.2.1, HSW.out.2.2⟩
namespace B
def pq (q : Nat) (xs : Nat → List Nat) (j m : Nat) : D.Dk := { D.blank with p := ((List.range m).filter (fun i => decide (i % q = j))).map (fun i => (i / q, xs i)) }
theorem pq_yes (q : Nat) (xs : Nat → List Nat) {j m : Nat} (h : m % q = j) : pq q xs j (m + 1) = D.write (pq q xs j m) (m / q) (xs m) := by
  unfold pq D.write
  rw [List.range_succ, List.filter_append, List.map_append]
  simp [h]
theorem pq_no (q : Nat) (xs : Nat → List Nat) {j m : Nat} (h : m % q ≠ j) : pq q xs j (m + 1) = pq q xs j m := by
  unfold pq
  rw [List.range_succ, List.filter_append, List.map_append]
  simp [h]
theorem pq_look (q : Nat) (hq : 0 < q) (xs : Nat → List Nat) {j : Nat} (hj : j < q) (m a : Nat) (ha : a < 52) : D.look (pq q xs j m) a = if q * a + j < m then xs (q * a + j) else List.replicate 32 0 := by
  induction m with
  | zero => rw [if_neg (by omega)]; exact blank_look a ha
  | succ m ih =>
    have hdm := Nat.div_add_mod m q
    by_cases h : m % q = j
    · rw [pq_yes q xs h]
      by_cases h2 : m / q = a
      · have e : q * a + j = m := by rw [← h2, ← h]; exact hdm
        rw [h2, D.look_write_same, if_pos (by omega), e]
      · have e : q * a + j ≠ m := fun e => h2 (by
          rw [← e, Nat.mul_add_div hq, Nat.div_eq_of_lt hj, Nat.add_zero])
        rw [D.look_write_other _ _ h2, ih]
        by_cases h3 : q * a + j < m
        · rw [if_pos h3, if_pos (by omega)]
        · rw [if_neg h3, if_neg (by omega)]
    · have e : q * a + j ≠ m := fun e => h (by rw [← e, Nat.mul_add_mod, Nat.mod_eq_of_lt hj])
      rw [pq_no q xs h, ih]
      by_cases h3 : q * a + j < m
      · rw [if_pos h3, if_pos (by omega)]
      · rw [if_neg h3, if_neg (by omega)]
/-- the bench of four disks behind m writes -/
def qb (xs : Nat → List Nat) (m : Nat) : Bn := ⟨(m : Nat), -1, false, [pq 4 xs 0 m, pq 4 xs 1 m, pq 4 xs 2 m, pq 4 xs 3 m]⟩
theorem qb_get (xs : Nat → List Nat) (m : Nat) {i : Nat} (hi : i < 4) : (qb xs m).ds[i]? = some (pq 4 xs i m) := by
  have : i = 0 ∨ i = 1 ∨ i = 2 ∨ i = 3 := by omega
  rcases this with rfl | rfl | rfl | rfl <;> rfl
theorem qb_step (xs : Nat → List Nat) (hx : ∀ i, (xs i).length = 32) (m : Nat) (hm : m < 208) :
    writeE (qb xs m) ((m % 4 : Nat) : Int) ((m / 4 : Nat) : Int) (xs m) = 0 ∧ write (qb xs m) ((m % 4 : Nat) : Int) ((m / 4 : Nat) : Int) (xs m) = qb xs (m + 1) := by
  obtain ⟨e1, e2⟩ := write_ok (b := qb xs m) (i := m % 4) (a := m / 4) (x := xs m) rfl (qb_get xs m (by omega)) rfl (by omega) (hx m) (by show (-1 : Int) ≠ 0; decide)
  rw [e1, e2]
  refine ⟨rfl, ?_⟩
  unfold qb counted
  simp only
  rw [if_neg (by decide)]
  have h4 : m % 4 = 0 ∨ m % 4 = 1 ∨ m % 4 = 2 ∨ m % 4 = 3 := by omega
  congr 1
  rcases h4 with h | h | h | h
  · rw [h, pq_yes 4 xs h, pq_no 4 xs (j := 1) (by omega), pq_no 4 xs (j := 2) (by omega), pq_no 4 xs (j := 3) (by omega)]
    rfl
  · rw [h, pq_yes 4 xs h, pq_no 4 xs (j := 0) (by omega), pq_no 4 xs (j := 2) (by omega), pq_no 4 xs (j := 3) (by omega)]
    rfl
  · rw [h, pq_yes 4 xs h, pq_no 4 xs (j := 0) (by omega), pq_no 4 xs (j := 1) (by omega), pq_no 4 xs (j := 3) (by omega)]
    rfl
  · rw [h, pq_yes 4 xs h, pq_no 4 xs (j := 0) (by omega), pq_no 4 xs (j := 1) (by omega), pq_no 4 xs (j := 2) (by omega)]
    rfl
theorem pq_full (xs : Nat → List Nat) {j : Nat} (hj : j < 4) : (pq 4 xs j 208).p.length = 52 := by
  unfold pq
  rw [List.length_map]
  have : ∀ j, j < 4 → ((List.range 208).filter (fun i => decide (i % 4 = j))).length = 52 := by decide +kernel
  exact this j hj
theorem pq_small (q : Nat) (xs : Nat → List Nat) (j m : Nat) : (pq q xs j m).p.length ≤ m := by
  unfold pq
  rw [List.length_map]
  exact Nat.le_trans (List.length_filter_le _ _) (by simp)
end B
end Go.Proofs.Ytggljcdkiaggeaa
