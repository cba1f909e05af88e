/- The plain laws of a row of zeros, and of one that is not. -/
import Derived.Test.YtknodcaknopcnaaRwL
namespace Go.Proofs.Ytknodcaknopcnaa.Y
open G
set_option linter.unusedVariables false

abbrev z32 : List Nat := List.replicate 32 0
theorem S_zero (c : Nat → Nat) {ls : List (List Nat)} {i : Nat} (h : ∀ k, at0 (ls.getD k []) i = 0) (m : Nat) : S c ls m i = 0 := by
  induction m with
  | zero => rfl
  | succ m ih =>
    show S c ls m i ^^^ gm ((ls.getD m []).getD i 0) (c m) = 0
    have : (ls.getD m []).getD i 0 = 0 := h m
    rw [ih, this, gm_zero_left]; rfl
theorem zeros_at (w : Nat) (k i : Nat) : at0 ((List.replicate w z32).getD k []) i = 0 := by
  rw [List.getD, List.getElem?_replicate]
  split
  · exact at0_zeros 32 i
  · simp [at0]
theorem zeros_32 (w : Nat) : ∀ p ∈ List.replicate w z32, p.length = 32 := fun p hp => by rw [List.eq_of_mem_replicate hp]; simp
theorem P_zeros {w : Nat} (hw : 0 < w) : P (List.replicate w z32) = z32 :=
  ext_at (n := 32) (P_len (zeros_32 w) (by simpa using hw)) (by simp) fun i hi => by rw [P_at (zeros_32 w) (by simpa using hw) hi, S_zero _ (fun k => zeros_at w k i), at0_zeros]
theorem Q_zeros {w : Nat} (hw : 0 < w) : Q (List.replicate w z32) = z32 :=
  ext_at (n := 32) (Q_len (zeros_32 w) (by simpa using hw)) (by simp) fun i hi => by rw [Q_at (zeros_32 w) (by simpa using hw) hi, S_zero _ (fun k => zeros_at w k i), at0_zeros]
theorem fill_zeros {l d c r : Nat} (hok : okN l d c) : fillL l d c r (List.replicate (d - (l - 4)) z32) = List.replicate d z32 := by
  have hok' := hok
  obtain ⟨h1, h2, h3⟩ := hok'
  refine getD_eq (by rw [fillL_len]; simp) fun i hi => ?_
  rw [fillL_len] at hi
  obtain ⟨j, hj, rfl⟩ := off_onto (c := c) (r := r) hi
  rw [fillL_get hok (by simp) hj]
  have e : (List.replicate d z32).getD (off d c r j) [] = z32 := by rw [List.getD, List.getElem?_replicate, if_pos hi]; rfl
  rw [e]
  unfold cont
  split
  · exact P_zeros (by omega)
  · split
    · exact Q_zeros (by omega)
    · rw [List.getD, List.getElem?_replicate, if_pos (by omega)]; rfl
/-- how many of the first k rows are not zeros -/
def cntA (rows : List (List Nat)) (k : Nat) : Nat := ((List.range k).filter (fun i => !decide (rows.getD i [] = z32))).length
theorem cntA_yes {rows : List (List Nat)} {k : Nat} (h : rows.getD k [] ≠ z32) : cntA rows (k + 1) = cntA rows k + 1 := by
  unfold cntA
  rw [List.range_succ, List.filter_append, List.length_append, List.filter_cons_of_pos (by simpa using h)]
  rfl
theorem cntA_no {rows : List (List Nat)} {k : Nat} (h : rows.getD k [] = z32) : cntA rows (k + 1) = cntA rows k := by
  unfold cntA
  rw [List.range_succ, List.filter_append, List.length_append, List.filter_cons_of_neg (by simp only [h]; simp)]
  rfl
theorem cntA_le (rows : List (List Nat)) (k : Nat) : cntA rows k ≤ k := by
  unfold cntA
  exact Nat.le_trans (List.length_filter_le _ _) (by simp)
theorem cnt_of {rows : List (List Nat)} {d : Nat} (L : List Nat) (hL : L.Nodup) (h : ∀ i, i < d → (rows.getD i [] ≠ z32 ↔ i ∈ L)) (hd : ∀ i ∈ L, i < d) : cntA rows d = L.length := by
  unfold cntA
  refine List.Perm.length_eq ((List.perm_ext_iff_of_nodup (List.nodup_range.filter _) hL).2 fun i => ?_)
  rw [List.mem_filter, List.mem_range]
  constructor
  · rintro ⟨h1, h2⟩
    exact (h i h1).1 (by simpa using h2)
  · intro hi
    exact ⟨hd i hi, by simpa using (h i (hd i hi)).2 hi⟩
/-- a row with one sector that is not zeros -/
theorem fill_one {l d c r : Nat} (hok : okN l d c) {s : List Nat} (hs : s.length = 32) (hs8 : ∀ x ∈ s, x < 256) (h0 : at0 s 0 ≠ 0) {k : Nat} (hk : k < d - (l - 4)) :
    cntA (fillL l d c r ((List.replicate (d - (l - 4)) z32).set k s)) d = l - 3 := by
  have hok' := hok
  obtain ⟨h1, h2, h3⟩ := hok'
  have hz : s ≠ z32 := fun e => h0 (by rw [e]; exact at0_zeros 32 0)
  obtain ⟨D, hD⟩ : ∃ D, D = (List.replicate (d - (l - 4)) z32).set k s := ⟨_, rfl⟩
  have hDl : D.length = d - (l - 4) := by rw [hD]; simp
  have hset0 : (List.replicate (d - (l - 4)) z32).set k z32 = List.replicate (d - (l - 4)) z32 := by
    refine getD_eq (by simp) fun i hi => ?_
    have hi' : i < d - (l - 4) := by simpa using hi
    rw [getD_set _ _ _ _ (by simpa using hi')]
    split
    · rw [List.getD, List.getElem?_replicate, if_pos hi']; rfl
    · rfl
  have hkl : k < (List.replicate (d - (l - 4)) z32).length := by simpa using hk
  have hP : P D ≠ z32 := fun e => by
    have := P_set_at (t := 0) (zeros_32 (d - (l - 4))) hkl hs hs8 (by decide)
    rw [← hD, e, at0_zeros, hset0, S_zero _ (fun k => zeros_at _ k 0), Nat.zero_xor] at this
    exact h0 this.symm
  have hQ : Q D ≠ z32 := fun e => by
    have := Q_set_at (t := 0) (zeros_32 (d - (l - 4))) hkl hs (by decide)
    rw [← hD, e, at0_zeros, hset0, S_zero _ (fun k => zeros_at _ k 0), Nat.zero_xor] at this
    exact gm_ne_zero (at0_byte hs8 0) (pw_lt k) h0 (pw_ne_zero k) this.symm
  have hDk : ∀ m, m < d - (l - 4) → D.getD m [] = if k = m then s else z32 := by
    intro m hm
    rw [hD, getD_set _ _ _ _ (by simpa using hm)]
    split
    · rfl
    · rw [List.getD, List.getElem?_replicate, if_pos hm]; rfl
  rw [← hD]
  have key : ∀ j, j < d → ((fillL l d c r D).getD (off d c r j) [] ≠ z32 ↔ j = 0 ∨ l = 6 ∧ j = 1 ∨ j = l - 4 + k) := by
    intro j hj
    rw [fillL_get hok hDl hj]
    unfold cont
    by_cases e0 : j = 0
    · rw [if_pos e0]
      exact ⟨fun _ => .inl e0, fun _ => hP⟩
    · rw [if_neg e0]
      by_cases e1 : l = 6 ∧ j = 1
      · rw [if_pos e1]
        exact ⟨fun _ => .inr (.inl e1), fun _ => hQ⟩
      · rw [if_neg e1, hDk _ (by omega)]
        by_cases e2 : k = j - (l - 4)
        · rw [if_pos e2]
          exact ⟨fun _ => .inr (.inr (by omega)), fun _ => hz⟩
        · rw [if_neg e2]
          exact ⟨fun h => absurd rfl h, fun h => by rcases h with h | h | h; exact absurd h e0; exact absurd h e1; omega⟩
  rcases h1 with ⟨rfl, h1⟩ | ⟨rfl, h1⟩
  · refine (cnt_of [off d c r 0, off d c r (1 + k)] ?_ (fun i hi => ?_) ?_).trans rfl
    · simp only [List.nodup_cons, List.mem_singleton, List.not_mem_nil, not_false_iff, List.nodup_nil, and_true]
      exact fun e => by have := off_inj (by omega) (by omega) e; omega
    · obtain ⟨j, hj, rfl⟩ := off_onto (c := c) (r := r) hi
      rw [key j hj]
      simp only [List.mem_cons, List.not_mem_nil, or_false]
      constructor
      · rintro (h | h | h)
        · left; rw [h]
        · omega
        · right; rw [h]
      · rintro (h | h)
        · exact .inl (off_inj hj (by omega) h)
        · exact .inr (.inr (off_inj hj (by omega) h))
    · intro i hi
      simp only [List.mem_cons, List.not_mem_nil, or_false] at hi
      rcases hi with rfl | rfl <;> exact off_lt (by omega)
  · refine (cnt_of [off d c r 0, off d c r 1, off d c r (2 + k)] ?_ (fun i hi => ?_) ?_).trans rfl
    · simp only [List.nodup_cons, List.mem_cons, List.mem_singleton, List.not_mem_nil, not_false_iff, List.nodup_nil, and_true, or_false, not_or]
      refine ⟨⟨fun e => ?_, fun e => ?_⟩, fun e => ?_⟩
      · have := off_inj (by omega) (by omega) e; omega
      · have := off_inj (by omega) (by omega) e; omega
      · have := off_inj (by omega) (by omega) e; omega
    · obtain ⟨j, hj, rfl⟩ := off_onto (c := c) (r := r) hi
      rw [key j hj]
      simp only [List.mem_cons, List.not_mem_nil, or_false]
      constructor
      · rintro (h | h | h)
        · left; rw [h]
        · right; left; rw [h.2]
        · right; right; rw [h]
      · rintro (h | h | h)
        · exact .inl (off_inj hj (by omega) h)
        · exact .inr (.inl ⟨trivial, off_inj hj (by omega) h⟩)
        · exact .inr (.inr (off_inj hj (by omega) h))
    · intro i hi
      simp only [List.mem_cons, List.not_mem_nil, or_false] at hi
      rcases hi with rfl | rfl | rfl <;> exact off_lt (by omega)
end Go.Proofs.Ytknodcaknopcnaa.Y
