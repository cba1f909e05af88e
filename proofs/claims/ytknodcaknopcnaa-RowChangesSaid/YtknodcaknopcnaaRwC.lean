/- The plain law of a row in which one sector is changed. -/
import Derived.Test.YtknodcaknopcnaaRwL
namespace Go.Proofs.Ytknodcaknopcnaa.Y
open G
set_option linter.unusedVariables false

theorem x_mid (z a b : Nat) : (z ^^^ a) ^^^ (z ^^^ b) = a ^^^ b := by
  rw [Nat.xor_comm z a, Nat.xor_assoc, ← Nat.xor_assoc z z b, Nat.xor_self, Nat.zero_xor]
/-- what each disk's sector is changed by -/
def wantL (l d c r k : Nat) (ch : List Nat) (i : Nat) : List Nat := if i = off d c r (l - 4 + k) ∨ i = off d c r 0 then ch else if l = 6 ∧ i = off d c r 1 then sclL ch (pw k) else List.replicate 32 0
theorem changed {l d c r : Nat} {data : List (List Nat)} (hok : okN l d c) (hw : data.length = d - (l - 4)) (h32 : ∀ p ∈ data, p.length = 32) (h8 : ∀ p ∈ data, ∀ x ∈ p, x < 256) {k : Nat} (hk : k < d - (l - 4)) {s : List Nat} (hs : s.length = 32) (hs8 : ∀ x ∈ s, x < 256) {i : Nat} (hi : i < d) :
    addL ((fillL l d c r data).getD i []) ((fillL l d c r (data.set k s)).getD i []) = wantL l d c r k (addL (data.getD k []) s) i := by
  have hok' := hok
  obtain ⟨h1, h2, h3⟩ := hok'
  have hkd : k < data.length := by omega
  have hd32 : (data.getD k []).length = 32 := getD_len h32 hkd
  have hd8 : ∀ x ∈ data.getD k [], x < 256 := by
    rw [show data.getD k [] = data[k] by simp [List.getD, hkd]]; exact h8 _ (List.getElem_mem hkd)
  have hw' : (data.set k s).length = d - (l - 4) := by rw [List.length_set]; exact hw
  have h32' : ∀ p ∈ data.set k s, p.length = 32 := set_mem h32 hs
  obtain ⟨j, hj, rfl⟩ := off_onto (c := c) (r := r) hi
  rw [fillL_get hok hw hj, fillL_get hok hw' hj]
  have hch : (addL (data.getD k []) s).length = 32 := addL_len2 hd32 hs
  have o0 : ∀ m, m < d → (off d c r j = off d c r m ↔ j = m) := fun m hm => ⟨fun e => off_inj hj hm e, fun e => by rw [e]⟩
  unfold wantL
  have e1 : (off d c r j = off d c r (l - 4 + k) ∨ off d c r j = off d c r 0) ↔ (j = l - 4 + k ∨ j = 0) := by rw [o0 _ (by omega), o0 _ (by omega)]
  have e2 : (l = 6 ∧ off d c r j = off d c r 1) ↔ (l = 6 ∧ j = 1) := by
    constructor
    · rintro ⟨h6, h⟩; exact ⟨h6, (o0 1 (by omega)).1 h⟩
    · rintro ⟨h6, h⟩; exact ⟨h6, by rw [h]⟩
  have hP : ∀ t, t < 32 → at0 (P data) t = S (fun _ => 1) (data.set k (List.replicate 32 0)) data.length t ^^^ at0 (data.getD k []) t := fun t ht => by
    have := P_set_at h32 hkd hd32 hd8 ht
    rwa [set_same data k hkd] at this
  have hQ : ∀ t, t < 32 → at0 (Q data) t = S pw (data.set k (List.replicate 32 0)) data.length t ^^^ gm (at0 (data.getD k []) t) (pw k) := fun t ht => by
    have := Q_set_at h32 hkd hd32 ht
    rwa [set_same data k hkd] at this
  unfold cont
  by_cases j0 : j = 0
  · rw [if_pos j0, if_pos j0, if_pos (e1.2 (.inr j0))]
    refine ext_at (n := 32) (addL_len2 (P_len h32 (by omega)) (P_len h32' (by rw [hw']; omega))) hch fun t ht => ?_
    rw [addL_at (n := 32) (P_len h32 (by omega)) (P_len h32' (by rw [hw']; omega)) ht, hP t ht, P_set_at h32 hkd hs hs8 ht, x_mid, addL_at hd32 hs ht]
  · rw [if_neg j0, if_neg j0]
    by_cases j1 : l = 6 ∧ j = 1
    · rw [if_pos j1, if_pos j1, if_neg (fun e => by have := e1.1 e; omega), if_pos (e2.2 j1)]
      refine ext_at (n := 32) (addL_len2 (Q_len h32 (by omega)) (Q_len h32' (by rw [hw']; omega))) (by rw [sclL_len]; exact hch) fun t ht => ?_
      rw [addL_at (n := 32) (Q_len h32 (by omega)) (Q_len h32' (by rw [hw']; omega)) ht, hQ t ht, Q_set_at h32 hkd hs ht, x_mid, sclL_at, addL_at hd32 hs ht, gm_xor_left (pw k) (at0_byte hd8 t) (at0_byte hs8 t)]
    · rw [if_neg j1, if_neg j1, getD_set _ _ _ _ (by omega)]
      by_cases jk : j = l - 4 + k
      · rw [if_pos (e1.2 (.inl jk)), if_pos (by omega), show j - (l - 4) = k by omega]
      · rw [if_neg (show ¬ k = j - (l - 4) by omega), if_neg (show ¬ (off d c r j = off d c r (l - 4 + k) ∨ off d c r j = off d c r 0) from fun e => by have := e1.1 e; omega), if_neg (show ¬ (l = 6 ∧ off d c r j = off d c r 1) from fun e => j1 (e2.1 e))]
        have h5 : (data.getD (j - (l - 4)) []).length = 32 := getD_len h32 (by omega)
        refine ext_at (n := 32) (addL_len2 h5 h5) (by simp) fun t ht => ?_
        rw [addL_at h5 h5 ht, Nat.xor_self, at0_zeros]
end Go.Proofs.Ytknodcaknopcnaa.Y
