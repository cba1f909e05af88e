/- More of the plain law of package synd: two parts; parts split. -/
import Derived.Test.YtghbbceephcifaaSynd
namespace Go.Proofs.Ytghbbceephcifaa.Y
open G

theorem P_two {a b : List Nat} (ha : ∀ x ∈ a, x < 256) (hb : ∀ x ∈ b, x < 256) : P [a, b] = addL a b := by
  unfold P sumL
  by_cases h : b.length = a.length
  · have hal : alikeB [a, b] = true := by rw [alike_iff]; exact ⟨by simp, by intro p hp; simp at hp; rcases hp with rfl | rfl; rfl; exact h⟩
    rw [if_pos hal]
    show row (fun _ => 1) [a, b] 2 a.length = _
    have e1 := row_step (fun _ => 1) [a, b] 1 a.length b rfl h
    have e0 := row_step (fun _ => 1) [a, b] 0 a.length a rfl rfl
    have eb : sclL b 1 = b := by
      unfold sclL
      conv => rhs; rw [← List.map_id b]
      exact List.map_congr_left fun x hx => gm_one_right (hb x hx)
    have ea : sclL a 1 = a := by
      unfold sclL
      conv => rhs; rw [← List.map_id a]
      exact List.map_congr_left fun x hx => gm_one_right (ha x hx)
    rw [eb] at e1
    rw [ea, row_zero] at e0
    rw [← e1, ← e0]
    congr 1
    unfold addL
    rw [if_pos (by simp)]
    apply List.ext_getElem?
    intro i
    by_cases hi : i < a.length
    · simp [hi]
    · simp [hi]
  · have hal : ¬ alikeB [a, b] = true := by
      rw [alike_iff]
      intro hh
      exact h (hh.2 b (by simp))
    rw [if_neg hal]
    unfold addL
    rw [if_neg (Ne.symm h)]
/-- a row whose first i bytes are scaled -/
def part (l : List Nat) (f i : Nat) : List Nat := sclL (l.take i) f ++ l.drop i
theorem part_len (l : List Nat) (f i : Nat) : (part l f i).length = l.length := by unfold part; rw [List.length_append, sclL_len, List.length_take, List.length_drop]; omega
theorem part_zero (l : List Nat) (f : Nat) : part l f 0 = l := by simp [part, sclL]
theorem part_end (l : List Nat) (f i : Nat) (h : l.length ≤ i) : part l f i = sclL l f := by unfold part; rw [List.take_of_length_le h, List.drop_of_length_le h, List.append_nil]
theorem part_get {l : List Nat} {f i x : Nat} (h : l[i]? = some x) : (part l f i)[i]? = some x := by
  obtain ⟨hi, _⟩ := List.getElem?_eq_some_iff.1 h
  unfold part
  have e : (sclL (l.take i) f).length = i := by rw [sclL_len, List.length_take]; omega
  rw [List.getElem?_append_right (by omega), e, Nat.sub_self, List.getElem?_drop]
  exact h
theorem part_set {l : List Nat} {f i x : Nat} (h : l[i]? = some x) : (part l f i).set i (gm x f) = part l f (i + 1) := by
  obtain ⟨hi, e0⟩ := List.getElem?_eq_some_iff.1 h
  unfold part
  have e : (sclL (l.take i) f).length = i := by rw [sclL_len, List.length_take]; omega
  have e2 : l.drop i = x :: l.drop (i + 1) := by rw [← e0, List.getElem_cons_drop]
  have e3 : l.take (i + 1) = l.take i ++ [x] := by rw [List.take_add_one, h]; rfl
  rw [List.set_append_right _ _ (by omega), e, Nat.sub_self, e2, List.set_cons_zero, e3]
  unfold sclL
  rw [List.map_append, List.append_assoc]
  rfl
end Go.Proofs.Ytghbbceephcifaa.Y
