/- Sums of rows of bytes, plain and by coefficients: the plain law of package synd. -/
import Derived.Test.YtknodcaknopcnaaGf
import Derived.Lib.Hide
namespace Go.Proofs.Ytknodcaknopcnaa.Y
open G

/-- two rows added -/
def addL (a b : List Nat) : List Nat := if a.length = b.length then List.zipWith (· ^^^ ·) a b else []
def sclL (l : List Nat) (f : Nat) : List Nat := l.map (fun x => gm x f)
theorem addL_len {a b : List Nat} (h : a.length = b.length) : (addL a b).length = a.length := by unfold addL; rw [if_pos h]; simp [h]
theorem sclL_len (l : List Nat) (f : Nat) : (sclL l f).length = l.length := by simp [sclL]
theorem addL_byte {a b : List Nat} (ha : ∀ x ∈ a, x < 256) (hb : ∀ x ∈ b, x < 256) : ∀ x ∈ addL a b, x < 256 := by
  intro x hx
  unfold addL at hx
  split at hx
  · obtain ⟨i, hi, rfl⟩ := List.getElem_of_mem hx
    rw [List.getElem_zipWith]
    exact Nat.xor_lt_two_pow (n := 8) (ha _ (List.getElem_mem _)) (hb _ (List.getElem_mem _))
  · cases hx
/-- the sum of the first k parts at place i, each times its coefficient -/
def S (c : Nat → Nat) (ls : List (List Nat)) : Nat → Nat → Nat
  | 0, _ => 0
  | k + 1, i => S c ls k i ^^^ gm ((ls.getD k []).getD i 0) (c k)
def row (c : Nat → Nat) (ls : List (List Nat)) (k n : Nat) : List Nat := (List.range n).map (S c ls k)
/-- all as long as the first, and at least one -/
def alikeB (ls : List (List Nat)) : Bool := ls.all (fun p => p.length == (ls.headD []).length) && decide (0 < ls.length)
def sumL (c : Nat → Nat) (ls : List (List Nat)) : List Nat := if alikeB ls then row c ls ls.length (ls.headD []).length else []
def P (ls : List (List Nat)) : List Nat := sumL (fun _ => 1) ls
def Q (ls : List (List Nat)) : List Nat := sumL pw ls

theorem row_len (c : Nat → Nat) (ls : List (List Nat)) (k n : Nat) : (row c ls k n).length = n := by simp [row]
theorem row_get (c : Nat → Nat) (ls : List (List Nat)) (k n i : Nat) (hi : i < n) : (row c ls k n)[i]? = some (S c ls k i) := by simp [row, hi]
theorem row_zero (c : Nat → Nat) (ls : List (List Nat)) (n : Nat) : row c ls 0 n = List.replicate n 0 := by
  unfold row
  apply List.ext_getElem?
  intro i
  by_cases hi : i < n
  · simp [hi, S]
  · simp [hi]
theorem row_step (c : Nat → Nat) (ls : List (List Nat)) (k n : Nat) (p : List Nat) (hp : ls[k]? = some p) (hl : p.length = n) : addL (row c ls k n) (sclL p (c k)) = row c ls (k + 1) n := by
  have e : ls.getD k [] = p := by simp [List.getD, hp]
  unfold addL
  rw [if_pos (by rw [row_len, sclL_len, hl])]
  apply List.ext_getElem?
  intro i
  by_cases hi : i < n
  · rw [List.getElem?_zipWith, row_get _ _ _ _ _ hi, row_get _ _ _ _ _ hi]
    have hpi : p[i]? = some (p.getD i 0) := by simp [List.getD, hl, hi]
    simp only [sclL, List.getElem?_map, hpi, Option.map_some, S, e]
  · rw [List.getElem?_eq_none (by simp [row_len, sclL_len, hl]; omega), List.getElem?_eq_none (by rw [row_len]; omega)]
theorem alike_iff (ls : List (List Nat)) : alikeB ls = true ↔ 0 < ls.length ∧ ∀ p ∈ ls, p.length = (ls.headD []).length := by
  unfold alikeB
  simp only [Bool.and_eq_true, List.all_eq_true, beq_iff_eq, decide_eq_true_eq]
  exact And.comm
/-- a row in the midst of its next step: the first i places are done -/
def mid (c : Nat → Nat) (ls : List (List Nat)) (k n i : Nat) : List Nat := (List.range n).map (fun m => if m < i then S c ls (k + 1) m else S c ls k m)
theorem mid_len (c : Nat → Nat) (ls : List (List Nat)) (k n i : Nat) : (mid c ls k n i).length = n := by simp [mid]
theorem mid_zero (c : Nat → Nat) (ls : List (List Nat)) (k n : Nat) : mid c ls k n 0 = row c ls k n := by simp [mid, row]
theorem mid_end (c : Nat → Nat) (ls : List (List Nat)) (k n : Nat) : mid c ls k n n = row c ls (k + 1) n := by
  unfold mid row
  apply List.map_congr_left
  intro m hm
  rw [if_pos (List.mem_range.1 hm)]
theorem mid_get (c : Nat → Nat) (ls : List (List Nat)) (k n i : Nat) (hi : i < n) : (mid c ls k n i)[i]? = some (S c ls k i) := by simp [mid, hi]
theorem mid_set (c : Nat → Nat) (ls : List (List Nat)) (k n i : Nat) (p : List Nat) (x : Nat) (hi : i < n) (hp : ls[k]? = some p) (hx : p[i]? = some x) :
    (mid c ls k n i).set i (S c ls k i ^^^ gm x (c k)) = mid c ls k n (i + 1) := by
  have e : ls.getD k [] = p := by simp [List.getD, hp]
  have e2 : p.getD i 0 = x := by simp [List.getD, hx]
  apply List.ext_getElem?
  intro m
  rw [List.getElem?_set]
  by_cases hm : m < n
  · by_cases him : i = m
    · subst him
      rw [if_pos rfl, if_pos (by rw [mid_len]; exact hi)]
      have e3 : S c ls (k + 1) i = S c ls k i ^^^ gm x (c k) := by show _ ^^^ gm ((ls.getD k []).getD i 0) (c k) = _; rw [e, e2]
      simp [mid, hi, e3]
    · rw [if_neg him]
      simp only [mid, List.getElem?_map, List.getElem?_range hm, Option.map_some]
      congr 1
      by_cases h1 : m < i
      · rw [if_pos h1, if_pos (by omega)]
      · rw [if_neg h1, if_neg (by omega)]
  · rw [if_neg (by omega), List.getElem?_eq_none (by rw [mid_len]; omega), List.getElem?_eq_none (by rw [mid_len]; omega)]
theorem getD_byte {ls : List (List Nat)} (h : ∀ l ∈ ls, ∀ x ∈ l, x < 256) (k i : Nat) : (ls.getD k []).getD i 0 < 256 := by
  rcases Nat.lt_or_ge k ls.length with hk | hk
  · have e : ls.getD k [] = ls[k] := by simp [List.getD, hk]
    rw [e]
    rcases Nat.lt_or_ge i ls[k].length with hi | hi
    · have e2 : ls[k].getD i 0 = ls[k][i] := by simp [List.getD, hi]
      rw [e2]; exact h _ (List.getElem_mem hk) _ (List.getElem_mem hi)
    · simp [List.getD, List.getElem?_eq_none hi]
  · simp [List.getD, List.getElem?_eq_none hk]
theorem S_byte (c : Nat → Nat) (ls : List (List Nat)) (h : ∀ l ∈ ls, ∀ x ∈ l, x < 256) (k i : Nat) : S c ls k i < 256 := by
  induction k with
  | zero => exact Nat.zero_lt_succ _
  | succ k ih => exact Nat.xor_lt_two_pow (n := 8) ih (gm_lt _ (getD_byte h k i))
theorem row_byte (c : Nat → Nat) (ls : List (List Nat)) (h : ∀ l ∈ ls, ∀ x ∈ l, x < 256) (k n : Nat) : ∀ x ∈ row c ls k n, x < 256 := by
  intro x hx
  obtain ⟨i, _, rfl⟩ := List.mem_map.1 hx
  exact S_byte c ls h k i
end Go.Proofs.Ytknodcaknopcnaa.Y
