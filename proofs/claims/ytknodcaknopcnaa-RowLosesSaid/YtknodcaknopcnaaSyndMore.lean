/- More of the plain law of package synd: two parts; parts split. -/
import Derived.Test.YtknodcaknopcnaaSynd
namespace Go.Proofs.Ytknodcaknopcnaa.Y
open G

theorem P_two {a b : List Nat} (ha : ∀ x ∈ a, x < 256) (hb : ∀ x ∈ b, x < 256) : P [a, b] = addL a b := by
  unfold P sumL
  by_cases h : b.length = a.length
  · have hal : alikeB [a, b] = true := by rw [alike_iff]; exact ⟨by simp, by intro p hp; simp at hp; rcases hp with rfl | rfl; rfl; exact h⟩
    rw [if_pos hal]
    show row (fun _ => 1) [a, b] 2 a.length = _
    have e1 := row_step (fun _ => 1) [a, b] 1 a.length b rfl h
    have e0 := row_step (fun _ => 1) [a, b] 0 a.length a rfl rfl
    have eb : sclL b 1 = b := by
      unfold sclL
      conv => rhs; rw [← List.map_id b]
      exact List.map_congr_left fun x hx => gm_one_right (hb x hx)
    have ea : sclL a 1 = a := by
      unfold sclL
      conv => rhs; rw [← List.map_id a]
      exact List.map_congr_left fun x hx => gm_one_right (ha x hx)
    rw [eb] at e1
    rw [ea, row_zero] at e0
    rw [← e1, ← e0]
    congr 1
    unfold addL
    rw [if_pos (by simp)]
    apply List.ext_getElem?
    intro i
    by_cases hi : i < a.length
    · simp [hi]
    · simp [hi]
  · have hal : ¬ alikeB [a, b] = true := by
      rw [alike_iff]
      intro hh
      exact h (hh.2 b (by simp))
    rw [if_neg hal]
    unfold addL
    rw [if_neg (Ne.symm h)]
/-- a row whose first i bytes are scaled -/
def part (l : List Nat) (f i : Nat) : List Nat := sclL (l.take i) f ++ l.drop i
theorem part_len (l : List Nat) (f i : Nat) : (part l f i).length = l.length := by unfold part; rw [List.length_append, sclL_len, List.length_take, List.length_drop]; omega
theorem part_zero (l : List Nat) (f : Nat) : part l f 0 = l := by simp [part, sclL]
theorem part_end (l : List Nat) (f i : Nat) (h : l.length ≤ i) : part l f i = sclL l f := by unfold part; rw [List.take_of_length_le h, List.drop_of_length_le h, List.append_nil]
theorem part_get {l : List Nat} {f i x : Nat} (h : l[i]? = some x) : (part l f i)[i]? = some x := by
  obtain ⟨hi, _⟩ := List.getElem?_eq_some_iff.1 h
  unfold part
  have e : (sclL (l.take i) f).length = i := by rw [sclL_len, List.length_take]; omega
  rw [List.getElem?_append_right (by omega), e, Nat.sub_self, List.getElem?_drop]
  exact h
theorem part_set {l : List Nat} {f i x : Nat} (h : l[i]? = some x) : (part l f i).set i (gm x f) = part l f (i + 1) := by
  obtain ⟨hi, e0⟩ := List.getElem?_eq_some_iff.1 h
  unfold part
  have e : (sclL (l.take i) f).length = i := by rw [sclL_len, List.length_take]; omega
  have e2 : l.drop i = x :: l.drop (i + 1) := by rw [← e0, List.getElem_cons_drop]
  have e3 : l.take (i + 1) = l.take i ++ [x] := by rw [List.take_add_one, h]; rfl
  rw [List.set_append_right _ _ (by omega), e, Nat.sub_self, e2, List.set_cons_zero, e3]
  unfold sclL
  rw [List.map_append, List.append_assoc]
  rfl
/-- the parts behind the first k, their coefficients shifted -/
theorem S_split (c : Nat → Nat) (A B : List (List Nat)) (i : Nat) : ∀ j, S c (A ++ B) (A.length + j) i = S c A A.length i ^^^ S (fun m => c (A.length + m)) B j i := by
  intro j
  induction j with
  | zero =>
    have : ∀ k, k ≤ A.length → S c (A ++ B) k i = S c A k i := by
      intro k
      induction k with
      | zero => intro _; rfl
      | succ k ih =>
        intro hk
        have e : (A ++ B).getD k [] = A.getD k [] := by simp [List.getD, List.getElem?_append_left (show k < A.length by omega)]
        show S c (A ++ B) k i ^^^ gm (((A ++ B).getD k []).getD i 0) (c k) = S c A k i ^^^ gm ((A.getD k []).getD i 0) (c k)
        rw [ih (by omega), e]
    rw [Nat.add_zero, this _ (Nat.le_refl _)]
    simp [S]
  | succ j ih =>
    have e : (A ++ B).getD (A.length + j) [] = B.getD j [] := by simp [List.getD, List.getElem?_append_right]
    show S c (A ++ B) (A.length + j) i ^^^ gm (((A ++ B).getD (A.length + j) []).getD i 0) (c (A.length + j)) = _
    rw [ih, e, Nat.xor_assoc]
    rfl
theorem S_shift (B : List (List Nat)) (hB : ∀ l ∈ B, ∀ x ∈ l, x < 256) (k i : Nat) : ∀ j, S (fun m => pw (k + m)) B j i = gm (S pw B j i) (pw k) := by
  intro j
  induction j with
  | zero => show 0 = gm 0 (pw k); rw [gm_zero_left]
  | succ j ih =>
    have hx := getD_byte hB j i
    show S (fun m => pw (k + m)) B j i ^^^ gm _ (pw (k + j)) = gm (S pw B j i ^^^ gm _ (pw j)) (pw k)
    rw [ih, gm_xor_left (pw k) (S_byte pw B hB j i) (gm_lt _ hx), ← gm_assoc hx (pw_lt j) (pw_lt k), Nat.add_comm k j, pw_add]
theorem zip_map {α : Type} (f g : α → Nat) (l : List α) : List.zipWith (· ^^^ ·) (l.map f) (l.map g) = l.map (fun x => f x ^^^ g x) := by
  induction l with
  | nil => rfl
  | cons a l ih => simp [ih]
theorem alike_of {ls : List (List Nat)} {m : Nat} (h : ∀ p ∈ ls, p.length = m) (h0 : 0 < ls.length) : alikeB ls = true ∧ (ls.headD []).length = m := by
  have e : (ls.headD []).length = m := by
    cases ls with
    | nil => simp at h0
    | cons a l => exact h a (by simp)
  exact ⟨(alike_iff ls).2 ⟨h0, fun p hp => by rw [e]; exact h p hp⟩, e⟩
theorem sumL_of (c : Nat → Nat) {ls : List (List Nat)} {m : Nat} (h : ∀ p ∈ ls, p.length = m) (h0 : 0 < ls.length) : sumL c ls = row c ls ls.length m := by
  obtain ⟨h1, h2⟩ := alike_of h h0
  unfold sumL; rw [if_pos h1, h2]
theorem row_split (c : Nat → Nat) (A B : List (List Nat)) (m : Nat) : row c (A ++ B) (A ++ B).length m = addL (row c A A.length m) (row (fun j => c (A.length + j)) B B.length m) := by
  unfold addL
  rw [if_pos (by rw [row_len, row_len])]
  unfold row
  rw [zip_map, List.length_append]
  exact List.map_congr_left fun i _ => S_split c A B i B.length
theorem P_split {A B : List (List Nat)} {m : Nat} (hA : ∀ p ∈ A, p.length = m) (hB : ∀ p ∈ B, p.length = m) (a0 : 0 < A.length) (b0 : 0 < B.length) : P (A ++ B) = addL (P A) (P B) := by
  unfold P
  rw [sumL_of _ (m := m) (fun p hp => (List.mem_append.1 hp).elim (hA p) (hB p)) (by rw [List.length_append]; omega), sumL_of _ hA a0, sumL_of _ hB b0]
  exact row_split (fun _ => 1) A B m
theorem Q_split {A B : List (List Nat)} {m : Nat} (hA : ∀ p ∈ A, p.length = m) (hB : ∀ p ∈ B, p.length = m) (a0 : 0 < A.length) (b0 : 0 < B.length) (hb : ∀ l ∈ B, ∀ x ∈ l, x < 256) : Q (A ++ B) = addL (Q A) (sclL (Q B) (pw A.length)) := by
  unfold Q
  rw [sumL_of _ (m := m) (fun p hp => (List.mem_append.1 hp).elim (hA p) (hB p)) (by rw [List.length_append]; omega), sumL_of _ hA a0, sumL_of _ hB b0, row_split pw A B m]
  congr 1
  unfold row sclL
  rw [List.map_map]
  exact List.map_congr_left fun i _ => S_shift B hb A.length i B.length
end Go.Proofs.Ytknodcaknopcnaa.Y
