/- Plain law of log.Put: four sectors put on each live disk that has not failed, and flushed. -/
import Derived.Test.YtenjpldinnbcbaaLgW
namespace Go.Proofs.Ytenjpldinnbcbaa.B
open Go.RowKit
set_option linter.unusedVariables false
set_option linter.unusedSimpArgs false

def wL (c : Bn) (m : Nat) (all : List (List Nat)) : Nat → Bn
  | 0 => c
  | k + 1 => write (wL c m all k) (m : Int) ((2 + k : Nat) : Int) (all.getD k [])
def wD (d : D.Dk) (all : List (List Nat)) : Nat → D.Dk
  | 0 => d
  | k + 1 => D.write (wD d all k) (2 + k) (all.getD k [])
theorem wD_f (d : D.Dk) (all : List (List Nat)) (k : Nat) : (wD d all k).f = d.f := by
  induction k with
  | zero => rfl
  | succ k ih => show (D.write _ _ _).f = _; rw [← ih]; rfl
theorem wD_p (d : D.Dk) (all : List (List Nat)) (k : Nat) : (wD d all k).p.length = d.p.length + k := by
  induction k with
  | zero => rfl
  | succ k ih => show ((wD d all k).p ++ [_]).length = _; rw [List.length_append, ih]; rfl
theorem wD_ok {d : D.Dk} (h : D.Ok d) {all : List (List Nat)} (h32 : ∀ x ∈ all, x.length = 32) (h8 : ∀ x ∈ all, ∀ y ∈ x, y < 256) : ∀ k, k ≤ all.length → 2 + k ≤ 52 → D.Ok (wD d all k) := by
  intro k
  induction k with
  | zero => intro _ _; exact h
  | succ k ih =>
    intro hk h52
    have hg : all.getD k [] ∈ all := by rw [show all.getD k [] = all[k] by simp [List.getD, show k < all.length by omega]]; exact List.getElem_mem _
    exact D.write_ok (ih (by omega) (by omega)) (by omega) (h32 _ hg) (h8 _ hg)
theorem wD_look (d : D.Dk) (all : List (List Nat)) (k a : Nat) : D.look (wD d all k) a = if 2 ≤ a ∧ a < 2 + k then all.getD (a - 2) [] else D.look d a := by
  induction k with
  | zero => rw [if_neg (by omega)]; rfl
  | succ k ih =>
    show D.look (D.write (wD d all k) (2 + k) (all.getD k [])) a = _
    by_cases h : a = 2 + k
    · subst h
      rw [D.look_write_same, if_pos (by omega)]
      congr 1
      omega
    · rw [D.look_write_other _ _ (fun e => h e.symm), ih]
      by_cases h2 : 2 ≤ a ∧ a < 2 + k
      · rw [if_pos h2, if_pos (by omega)]
      · rw [if_neg h2, if_neg (by omega)]
/-- some of the sectors written on one disk -/
theorem wL_spec {c : Bn} (h : Pw c) {m : Nat} (hm : m < c.ds.length) {all : List (List Nat)} (h32 : ∀ x ∈ all, x.length = 32) (h8 : ∀ x ∈ all, ∀ y ∈ x, y < 256) : ∀ k, k ≤ all.length → 2 + k ≤ 52 →
    Pw (wL c m all k) ∧ c.writes ≤ (wL c m all k).writes ∧ (wL c m all k).writes ≤ c.writes + (k : Int) ∧ (wL c m all k).ds.length = c.ds.length ∧ ∀ i, at1 (wL c m all k) i = if i = m ∧ failB c m = false then wD (at1 c i) all k else at1 c i := by
  intro k
  induction k with
  | zero => intro _ _; exact ⟨h, Int.le_refl _, by show c.writes ≤ c.writes + ((0 : Nat) : Int); omega, rfl, fun i => by split <;> rfl⟩
  | succ k ih =>
    intro hk h52
    obtain ⟨u, w1, w2, e2, e3⟩ := ih (by omega) (by omega)
    have hmm : m < (wL c m all k).ds.length := by rw [e2]; exact hm
    have hg : all.getD k [] ∈ all := by rw [show all.getD k [] = all[k] by simp [List.getD, show k < all.length by omega]]; exact List.getElem_mem _
    have hff : failB (wL c m all k) m = failB c m := by
      show (at1 (wL c m all k) m).f = (at1 c m).f
      rw [e3]; split
      · exact wD_f _ _ _
      · rfl
    obtain ⟨_, wr⟩ := u.write1 (a := 2 + k) (x := all.getD k []) hmm (by omega) (h32 _ hg)
    rw [hff] at wr
    have e : wL c m all (k + 1) = write (wL c m all k) (m : Int) ((2 + k : Nat) : Int) (all.getD k []) := rfl
    cases hf : failB c m with
    | true =>
      rw [hf, if_pos rfl] at wr
      rw [e, wr]
      refine ⟨u, w1, by omega, e2, fun i => ?_⟩
      rw [e3, if_neg (fun h => by rw [hf] at h; cases h.2), if_neg (fun h => by cases h.2)]
    | false =>
      rw [hf, if_neg (by decide)] at wr
      rw [e, wr]
      refine ⟨⟨u.down, u.left, fun d hd => ?_⟩, by show c.writes ≤ (wL c m all k).writes + 1; omega, by show (wL c m all k).writes + 1 ≤ _; omega, by show (List.set _ _ _).length = _; rw [List.length_set, e2], fun i => ?_⟩
      · rcases List.mem_or_eq_of_mem_set hd with h1 | h1
        · exact u.ok d h1
        · rw [h1, at1_eq hmm]; exact D.write_ok (u.ok _ (List.getElem_mem hmm)) (by omega) (h32 _ hg) (h8 _ hg)
      · rw [at1_set hmm]
        by_cases him : i = m
        · subst him
          rw [if_pos rfl, e3, if_pos ⟨rfl, hf⟩, if_pos ⟨rfl, rfl⟩]; rfl
        · rw [if_neg him, e3, if_neg (fun h => him h.1), if_neg (fun h => him h.1)]
def pL (c : Bn) (lv : List Bool) (all : List (List Nat)) : Nat → Bn
  | 0 => c
  | m + 1 => if live1 lv m then wL (pL c lv all m) m all all.length else pL c lv all m
theorem pL_spec {c : Bn} (h : Pw c) (lv : List Bool) {all : List (List Nat)} (h32 : ∀ x ∈ all, x.length = 32) (h8 : ∀ x ∈ all, ∀ y ∈ x, y < 256) (hn : all.length = 4) : ∀ m, m ≤ c.ds.length →
    Pw (pL c lv all m) ∧ c.writes ≤ (pL c lv all m).writes ∧ (pL c lv all m).writes ≤ c.writes + ((4 * m : Nat) : Int) ∧ (pL c lv all m).ds.length = c.ds.length ∧ ∀ i, at1 (pL c lv all m) i = if i < m ∧ live1 lv i = true ∧ failB c i = false then wD (at1 c i) all 4 else at1 c i := by
  intro m
  induction m with
  | zero => intro _; exact ⟨h, Int.le_refl _, by show c.writes ≤ c.writes + ((4 * 0 : Nat) : Int); omega, rfl, fun i => by rw [if_neg (by omega)]; rfl⟩
  | succ m ih =>
    intro hm
    obtain ⟨u, w1, w2, e2, e3⟩ := ih (by omega)
    by_cases hl : live1 lv m = true
    · have e : pL c lv all (m + 1) = wL (pL c lv all m) m all all.length := by show (if _ then _ else _) = _; rw [if_pos hl]
      obtain ⟨v1, x1, x2, y2, y3⟩ := wL_spec u (m := m) (by rw [e2]; omega) h32 h8 all.length (Nat.le_refl _) (by omega)
      have hff : failB (pL c lv all m) m = failB c m := by
        show (at1 (pL c lv all m) m).f = (at1 c m).f
        rw [e3, if_neg (by omega)]
      rw [e]
      refine ⟨v1, by omega, by rw [hn] at x2 ⊢; omega, y2.trans e2, fun i => ?_⟩
      rw [y3, hff, hn]
      by_cases him : i = m
      · subst him
        have e0 : at1 (pL c lv all i) i = at1 c i := by rw [e3, if_neg (by omega)]
        rw [e0]
        cases hf : failB c i with
        | false => rw [if_pos ⟨rfl, rfl⟩, if_pos ⟨by omega, hl, rfl⟩]
        | true => rw [if_neg (fun h => by cases h.2), if_neg (fun h => by cases h.2.2)]
      · rw [if_neg (fun h => him h.1), e3]
        by_cases h2 : i < m ∧ live1 lv i = true ∧ failB c i = false
        · rw [if_pos h2, if_pos ⟨by omega, h2.2⟩]
        · rw [if_neg h2, if_neg (fun h3 => h2 ⟨by omega, h3.2⟩)]
    · have e : pL c lv all (m + 1) = pL c lv all m := by show (if _ then _ else _) = _; rw [if_neg hl]
      rw [e]
      refine ⟨u, w1, by omega, e2, fun i => ?_⟩
      rw [e3]
      by_cases h2 : i < m ∧ live1 lv i = true ∧ failB c i = false
      · rw [if_pos h2, if_pos ⟨by omega, h2.2⟩]
      · rw [if_neg h2, if_neg (fun h3 => h2 ⟨by
          have : i ≠ m := fun e => by rw [e] at h3; exact hl h3.2.1
          omega, h3.2⟩)]
def putR (c : Bn) (lv : List Bool) (all : List (List Nat)) : Bn := flW (pL c lv all c.ds.length) lv c.ds.length
theorem putR_spec {c : Bn} (h : Pw c) (lv : List Bool) {all : List (List Nat)} (h32 : ∀ x ∈ all, x.length = 32) (h8 : ∀ x ∈ all, ∀ y ∈ x, y < 256) (hn : all.length = 4) :
    Pw (putR c lv all) ∧ c.writes ≤ (putR c lv all).writes ∧ (putR c lv all).writes ≤ c.writes + ((4 * c.ds.length : Nat) : Int) ∧ (putR c lv all).ds.length = c.ds.length ∧ (∀ i, i < c.ds.length → failB (putR c lv all) i = failB c i) ∧
    (∀ i, i < c.ds.length → ∀ a, a < 52 → lookB (putR c lv all) i a = if live1 lv i = true ∧ failB c i = false ∧ 2 ≤ a ∧ a < 6 then all.getD (a - 2) [] else lookB c i a) ∧ ∀ i, i < c.ds.length → (at1 (putR c lv all) i).p.length ≤ (at1 c i).p.length := by
  obtain ⟨u1, w1, w1', l1, s1⟩ := pL_spec h lv h32 h8 hn c.ds.length (Nat.le_refl _)
  obtain ⟨u2, w2, l2, s2⟩ := fS_spec u1 lv c.ds.length (by rw [l1]; exact Nat.le_refl _)
  have hok : ∀ i, i < c.ds.length → D.Ok (at1 (pL c lv all c.ds.length) i) := fun i hi => by rw [at1_eq (by rw [l1]; exact hi)]; exact u1.ok _ (List.getElem_mem _)
  refine ⟨u2, by show c.writes ≤ (flW _ _ _).writes; rw [w2]; exact w1, by show (flW _ _ _).writes ≤ _; rw [w2]; exact w1', l2.trans l1, fun i hi => ?_, fun i hi a ha => ?_, fun i hi => ?_⟩
  · show (at1 (flW _ _ _) i).f = (at1 c i).f
    rw [s2]
    have : (at1 (pL c lv all c.ds.length) i).f = (at1 c i).f := by rw [s1]; split; exact wD_f _ _ _; rfl
    split
    · rw [flushed_f, this]
    · exact this
  · show D.look (at1 (flW _ _ _) i) a = if _ then _ else D.look (at1 c i) a
    have hff : failB c i = (at1 c i).f := rfl
    by_cases hl : live1 lv i = true
    · rw [s2, if_pos ⟨hi, hl⟩]
      cases hf : failB c i with
      | true =>
        rw [s1, if_neg (fun h3 => by rw [hf] at h3; cases h3.2.2), if_neg (fun h3 => by cases h3.2.1)]
        unfold D.flushed
        rw [← hff, hf, if_pos rfl]
      | false =>
        have hw : at1 (pL c lv all c.ds.length) i = wD (at1 c i) all 4 := by rw [s1, if_pos ⟨hi, hl, hf⟩]
        have hwf : (at1 (pL c lv all c.ds.length) i).f = false := by rw [hw, wD_f]; rw [← hff, hf]
        unfold D.flushed
        rw [hwf, if_neg (by decide), D.look_flush (hok i hi) ha, hw, wD_look]
        by_cases hca : 2 ≤ a ∧ a < 6
        · rw [if_pos ⟨hca.1, by omega⟩, if_pos ⟨hl, rfl, hca⟩]
        · rw [if_neg (fun h => hca ⟨h.1, by omega⟩), if_neg (fun h3 => hca h3.2.2)]
    · rw [s2, if_neg (fun h3 => hl h3.2), s1, if_neg (fun h3 => hl h3.2.1), if_neg (fun h3 => hl h3.1)]
  · show (at1 (flW _ _ _) i).p.length ≤ _
    by_cases hl : live1 lv i = true
    · rw [s2, if_pos ⟨hi, hl⟩]
      cases hf : failB c i with
      | true =>
        rw [s1, if_neg (fun h3 => by rw [hf] at h3; cases h3.2.2)]
        have hff : (at1 c i).f = true := hf
        unfold D.flushed
        rw [hff, if_pos rfl]
        exact Nat.le_refl _
      | false =>
        have hw : at1 (pL c lv all c.ds.length) i = wD (at1 c i) all 4 := by rw [s1, if_pos ⟨hi, hl, hf⟩]
        have hff : (at1 c i).f = false := hf
        have hwf : (at1 (pL c lv all c.ds.length) i).f = false := by rw [hw, wD_f]; exact hff
        unfold D.flushed
        rw [hwf, if_neg (by decide)]
        exact Nat.zero_le _
    · rw [s2, if_neg (fun h3 => hl h3.2), s1, if_neg (fun h3 => hl h3.2.1)]
      exact Nat.le_refl _
/-- the disks one after the other -/
theorem flW_fold (c : Bn) (lv : List Bool) (m : Nat) : (onL lv m).foldl (fun c d => { c with ds := c.ds.set d (D.flushed (dk c (d : Int))) }) c = flW c lv m := by
  induction m with
  | zero => rfl
  | succ m ih =>
    by_cases hl : live1 lv m = true
    · rw [onL_yes hl, List.foldl_append, ih]
      show _ = (if _ then _ else _)
      rw [if_pos hl]; rfl
    · rw [onL_no (by simpa using hl), ih]
      show _ = (if _ then _ else _)
      rw [if_neg hl]
theorem pL_fold (c : Bn) (lv : List Bool) (all : List (List Nat)) (m : Nat) : (onL lv m).foldl (fun c d => wL c d all all.length) c = pL c lv all m := by
  induction m with
  | zero => rfl
  | succ m ih =>
    by_cases hl : live1 lv m = true
    · rw [onL_yes hl, List.foldl_append, ih]
      show _ = (if _ then _ else _)
      rw [if_pos hl]; rfl
    · rw [onL_no (by simpa using hl), ih]
      show _ = (if _ then _ else _)
      rw [if_neg hl]
end Go.Proofs.Ytenjpldinnbcbaa.B
