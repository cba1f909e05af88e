/- A Super's sector with one byte turned, and sealed again: which it is then. No Go, no memory, no condition. -/
import Derived.Test.YtgnnkglmlopldaaSup
namespace Go.Proofs.Ytgnnkglmlopldaa
open C

theorem sealed_getD {l : List Nat} (hl : l.length = 32) {k : Nat} (hk : k < 28) : (sealed l []).getD k 0 = l.getD k 0 := by
  rw [← getD_take (n := 28) hk, sealed_take [] hl, getD_take hk]
theorem enc_getD (s : Sup) {k : Nat} (hk : k < 28) : s.enc.getD k 0 = s.full.getD k 0 := sealed_getD s.full_len hk
/-- what stands ahead of a Super's numbers, and behind them, is alike in all -/
theorem enc_fix (s t : Sup) {k : Nat} (hk : k < 28) (h : k < 4 ∨ 19 ≤ k) : s.enc.getD k 0 = t.enc.getD k 0 := by
  rw [enc_getD s hk, enc_getD t hk]
  rcases h with h | h
  · have : k = 0 ∨ k = 1 ∨ k = 2 ∨ k = 3 := by omega
    rcases this with rfl | rfl | rfl | rfl <;> rfl
  · have z : ∀ s : Sup, s.full.getD k 0 = 0 := by
      intro s
      unfold Sup.full
      rw [List.getD_eq_getElem?_getD, List.getElem?_append_right (by rw [s.body_len]; exact h), s.body_len]
      rw [List.getElem?_replicate]
      split <;> rfl
    rw [z s, z t]
/-- the sector with one byte turned, sealed again -/
def turnS (s : Sup) (k v : Nat) : List Nat := sealed (s.enc.set k v) []
theorem turnS_len (s : Sup) (k v : Nat) : (turnS s k v).length = 32 := sealed_len [] (by rw [List.length_set]; exact s.enc_len)
theorem turnS_getD (s : Sup) {k v : Nat} (hk : k < 28) : (turnS s k v).getD k 0 = v := by
  unfold turnS
  rw [sealed_getD (by rw [List.length_set]; exact s.enc_len) hk]
  simp [List.getD, s.enc_len, show k < 32 by omega]
theorem turnS_same {s : Sup} {k x : Nat} (hx : s.enc[k]? = some x) : turnS s k (x ^^^ 0) = s.enc := by
  obtain ⟨hi, he⟩ := List.getElem?_eq_some_iff.1 hx
  unfold turnS
  have e : s.enc.set k (x ^^^ 0) = s.enc := by rw [Nat.xor_zero, ← he]; exact List.set_getElem_self hi
  rw [e, s.enc_sealed]
theorem turnS_ne {s t : Sup} {k x c : Nat} (hk : k < 28) (hx : s.enc[k]? = some x) (h0 : c ≠ 0) (ht : t.enc = turnS s k (x ^^^ c)) : t ≠ s := by
  intro e
  subst e
  have h1 := turnS_getD t (v := x ^^^ c) hk
  rw [← ht] at h1
  have h2 : t.enc.getD k 0 = x := by simp [List.getD, hx]
  rw [h2] at h1
  exact xor_ne h0 h1.symm
theorem turnS_none {s : Sup} {k x c : Nat} (hk : k < 28) (hx : s.enc[k]? = some x) (h0 : c ≠ 0) (h : k < 4 ∨ 19 ≤ k) : Sup.is (turnS s k (x ^^^ c)) = false := by
  rw [Bool.eq_false_iff]
  intro hi
  obtain ⟨_, _, h3⟩ := (Sup.is_iff _).1 hi
  have h1 := turnS_getD s (v := x ^^^ c) hk
  rw [← h3, enc_fix _ s hk h] at h1
  have h2 : s.enc.getD k 0 = x := by simp [List.getD, hx]
  rw [h2] at h1
  exact xor_ne h0 h1.symm
end Go.Proofs.Ytgnnkglmlopldaa
