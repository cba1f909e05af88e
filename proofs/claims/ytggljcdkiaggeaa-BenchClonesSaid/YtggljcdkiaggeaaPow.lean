/- What two disks have behind so many writes in turn, and behind a crash: in plain terms. -/
import Derived.Test.YtggljcdkiaggeaaBenchL
namespace Go.Proofs.Ytggljcdkiaggeaa
open Go.RowKit
set_option linter.unusedVariables false
set_option linter.unusedSimpArgs false
namespace B
def pw (xs : Nat → List Nat) (j m : Nat) : D.Dk := { D.blank with p := ((List.range m).filter (fun i => decide (i % 2 = j))).map (fun i => (i / 2, xs i)) }
theorem pw_yes (xs : Nat → List Nat) {j m : Nat} (h : m % 2 = j) : pw xs j (m + 1) = D.write (pw xs j m) (m / 2) (xs m) := by
  unfold pw D.write
  rw [List.range_succ, List.filter_append, List.map_append]
  simp [h]
theorem pw_no (xs : Nat → List Nat) {j m : Nat} (h : m % 2 ≠ j) : pw xs j (m + 1) = pw xs j m := by
  unfold pw
  rw [List.range_succ, List.filter_append, List.map_append]
  simp [h]
theorem pw_len (xs : Nat → List Nat) (m : Nat) : (pw xs 0 m).p.length + (pw xs 1 m).p.length = m := by
  induction m with
  | zero => rfl
  | succ m ih =>
    rcases Nat.mod_two_eq_zero_or_one m with h | h
    · rw [pw_yes xs h, pw_no xs (j := 1) (by omega)]
      simp only [D.write, List.length_append, List.length_singleton]
      omega
    · rw [pw_yes xs h, pw_no xs (j := 0) (by omega)]
      simp only [D.write, List.length_append, List.length_singleton]
      omega
theorem pw_ok (xs : Nat → List Nat) (hx : ∀ i, (xs i).length = 32 ∧ ∀ y ∈ xs i, y < 256) (j m : Nat) (hm : m ≤ 104) : D.Ok (pw xs j m) := by
  induction m with
  | zero => exact D.blank_ok
  | succ m ih =>
    by_cases h : m % 2 = j
    · rw [pw_yes xs h]
      exact D.write_ok (ih (by omega)) (by omega) (hx m).1 (hx m).2
    · rw [pw_no xs h]
      exact ih (by omega)
theorem blank_look (a : Nat) (ha : a < 52) : D.look D.blank a = List.replicate 32 0 := by
  have : ∀ a, a < 52 → D.look D.blank a = List.replicate 32 0 := by decide +kernel
  exact this a ha
theorem pw_look (xs : Nat → List Nat) {j : Nat} (hj : j < 2) (m a : Nat) (ha : a < 52) : D.look (pw xs j m) a = if 2 * a + j < m then xs (2 * a + j) else List.replicate 32 0 := by
  induction m with
  | zero => rw [if_neg (by omega)]; exact blank_look a ha
  | succ m ih =>
    by_cases h : m % 2 = j
    · rw [pw_yes xs h]
      by_cases h2 : m / 2 = a
      · rw [h2, D.look_write_same, if_pos (by omega)]
        congr 1
        omega
      · rw [D.look_write_other _ _ h2, ih]
        by_cases h3 : 2 * a + j < m
        · rw [if_pos h3, if_pos (by omega)]
        · rw [if_neg h3, if_neg (by omega)]
    · rw [pw_no xs h, ih]
      by_cases h3 : 2 * a + j < m
      · rw [if_pos h3, if_pos (by omega)]
      · rw [if_neg h3, if_neg (by omega)]
/-- the bench behind k writes, of which L may be done -/
def pb (xs : Nat → List Nat) (L k : Nat) : Bn := ⟨(min k L : Nat), (L : Int) - (min k L : Nat), decide (L < k), [pw xs 0 (min k L), pw xs 1 (min k L)]⟩
theorem pb_get (xs : Nat → List Nat) (L k : Nat) {i : Nat} (hi : i < 2) : (pb xs L k).ds[i]? = some (pw xs i (min k L)) := by
  have : i = 0 ∨ i = 1 := by omega
  rcases this with rfl | rfl <;> rfl
theorem pb_step (xs : Nat → List Nat) (hx : ∀ i, (xs i).length = 32) (L k : Nat) (hk : k < 20) :
    writeE (pb xs L k) ((k % 2 : Nat) : Int) ((k / 2 : Nat) : Int) (xs k) = (if k < L then 0 else 6) ∧ write (pb xs L k) ((k % 2 : Nat) : Int) ((k / 2 : Nat) : Int) (xs k) = pb xs L (k + 1) := by
  have h2 : k % 2 < 2 := by omega
  have hg := pb_get xs L k h2
  by_cases h : L < k
  · have hd : (pb xs L k).down = true := decide_eq_true h
    obtain ⟨e1, e2⟩ := write_down (b := pb xs L k) (i := k % 2) (a := ((k / 2 : Nat) : Int)) (x := xs k) hd (by show k % 2 < 2; omega)
    rw [e1, e2, if_neg (by omega)]
    refine ⟨rfl, ?_⟩
    unfold pb
    have m1 : min k L = L := by omega
    have m2 : min (k + 1) L = L := by omega
    rw [m1, m2, decide_eq_true h, decide_eq_true (by omega)]
  · have hd : (pb xs L k).down = false := decide_eq_false h
    have m1 : min k L = k := by omega
    by_cases h0 : k = L
    · have hl : (pb xs L k).left = 0 := by show (L : Int) - (min k L : Nat) = 0; omega
      obtain ⟨e1, e2⟩ := write_spent (b := pb xs L k) (a := k / 2) (x := xs k) hd hg rfl (by omega) (hx k) hl
      rw [e1, e2, if_neg (by omega)]
      refine ⟨rfl, ?_⟩
      unfold pb
      have m2 : min (k + 1) L = k := by omega
      rw [m1, m2, decide_eq_true (show L < k + 1 by omega)]
    · have hl : (pb xs L k).left ≠ 0 := by show (L : Int) - (min k L : Nat) ≠ 0; omega
      obtain ⟨e1, e2⟩ := write_ok (b := pb xs L k) (a := k / 2) (x := xs k) hd hg rfl (by omega) (hx k) hl
      rw [e1, e2, if_pos (by omega)]
      refine ⟨rfl, ?_⟩
      unfold pb counted
      have m2 : min (k + 1) L = k + 1 := by omega
      simp only [m1, m2]
      rw [if_pos (by omega), decide_eq_false (by omega : ¬ L < k), decide_eq_false (by omega : ¬ L < k + 1)]
      congr 1
      · omega
      · rcases Nat.mod_two_eq_zero_or_one k with h5 | h5
        · rw [h5, pw_yes xs h5, pw_no xs (j := 1) (by omega)]
          rfl
        · rw [h5, pw_yes xs h5, pw_no xs (j := 0) (by omega)]
          rfl
theorem pb_pending (xs : Nat → List Nat) (L k : Nat) : pending (pb xs L k) = min k L := by
  unfold pending pb
  have := pw_len xs (min k L)
  simp
  omega
theorem kept_all : ∀ (p : List (Nat × List Nat)) (n : Nat), p.length ≤ n → D.kept p (List.replicate n true) = p
  | [], n, _ => by cases n <;> rfl
  | v :: p, 0, h => by simp at h
  | v :: p, n + 1, h => by
    rw [List.replicate_succ]
    unfold D.kept
    rw [if_pos rfl, kept_all p n (by simpa using h)]
theorem crash_every (d : D.Dk) : D.crash d (List.replicate d.p.length true) = D.flush d := by
  unfold D.crash D.flush
  rw [kept_all _ _ (Nat.le_refl _)]
theorem pb_crash_all (xs : Nat → List Nat) (L k : Nat) : crash (pb xs L k) (List.replicate (min k L) true) = ⟨(min k L : Nat), -1, false, [D.flush (pw xs 0 (min k L)), D.flush (pw xs 1 (min k L))]⟩ := by
  have hl := pw_len xs (min k L)
  unfold crash pb
  congr 1
  unfold crashAll crashAll crashAll
  rw [List.length_replicate]
  have e0 : min (pw xs 0 (min k L)).p.length (min k L) = (pw xs 0 (min k L)).p.length := by omega
  rw [e0, List.take_replicate, List.drop_replicate, List.length_replicate]
  have e1 : min (pw xs 1 (min k L)).p.length (min k L - (pw xs 0 (min k L)).p.length) = (pw xs 1 (min k L)).p.length := by omega
  rw [e1, List.take_replicate, show min (pw xs 0 (min k L)).p.length (min k L) = (pw xs 0 (min k L)).p.length by omega, e1, crash_every, crash_every]
theorem pb_crash_none (xs : Nat → List Nat) (L k : Nat) : crash (pb xs L k) [] = ⟨(min k L : Nat), -1, false, [D.blank, D.blank]⟩ := by
  unfold crash pb
  congr 1
  unfold crashAll crashAll crashAll
  simp only [List.take_nil, List.drop_nil, D.crash_none]
  rfl
end B
end Go.Proofs.Ytggljcdkiaggeaa
