/- Plain law of BackupBytes: a row cut short. -/
import Derived.Test.YtenjpldinnbcbaaBkN
import Derived.Deep.CutRange
namespace Go.Proofs.Ytenjpldinnbcbaa
open Go.RowKit
set_option linter.unusedVariables false
set_option linter.unusedSimpArgs false
set_option maxRecDepth 100000
set_option maxHeartbeats 2000000

/-- rows of a row that is owned: the last cut to three bytes -/
def cutL (t : Prop) [Decidable t] (DL : List (List Nat)) : List (List Nat) := if t then DL.set (DL.length - 1) ((DL.getD (DL.length - 1) []).take 3) else DL
def badP (E X : Int) (n : Nat) (how : Int) : Prop := E < 0 ∨ 65535 < E ∨ X < 0 ∨ 16 < X ∨ 28 < n ∨ (how.tmod 11 = 10 ∧ 0 < n)
instance (E X : Int) (n : Nat) (how : Int) : Decidable (badP E X n how) := by unfold badP; infer_instance
theorem bad_may {E X : Int} {n : Nat} {how : Int} {DL : List (List Nat)} (hl : DL.length = n) (h32 : ∀ p ∈ DL, p.length = 32) (h : badP E X n how) : mayB E X (cutL (how.tmod 11 = 10 ∧ 0 < n) DL) = false := by
  have hcl : (cutL (how.tmod 11 = 10 ∧ 0 < n) DL).length = n := by unfold cutL; split <;> simp [hl]
  unfold mayB
  by_cases hb : 0 ≤ E ∧ E < 65536 ∧ 0 ≤ X ∧ X ≤ 16 ∧ n ≤ 28
  · have ht : how.tmod 11 = 10 ∧ 0 < n := by
      rcases h with h | h | h | h | h | h
      · omega
      · omega
      · omega
      · omega
      · omega
      · exact h
    rw [hcl, decide_eq_true hb]
    have : (cutL (how.tmod 11 = 10 ∧ 0 < n) DL).any badB = true := by
      rw [List.any_eq_true]
      unfold cutL
      rw [if_pos ht]
      refine ⟨(DL.getD (DL.length - 1) []).take 3, ?_, ?_⟩
      · exact List.mem_set (by omega) _
      · unfold badB
        have : ((DL.getD (DL.length - 1) []).take 3).length ≤ 3 := by rw [List.length_take]; omega
        exact decide_eq_true (by omega)
    rw [this]; rfl
  · rw [hcl, decide_eq_false hb]; rfl
theorem Byt.cut3 {w : World} {ao : Option Addr} {n cap k : Nat} {l : List Nat} (h : Byt w (.slice ao n cap) l) (hk : k ≤ n) : Byt w (.slice ao k cap) (l.take k) := by
  obtain ⟨ao', cap', e, h1, h2, h0, h3, h4⟩ := h
  cases e
  have e : k = (l.take k).length := by rw [List.length_take]; omega
  exact ⟨ao, cap, by rw [← e], by omega, h2, h0, fun x hx => h3 x (List.mem_of_mem_take hx), by rw [List.map_take]; exact h4.take k⟩
theorem ownBlock_len {ac : Option Addr} {n m cc y : Nat} (h : (Value.slice ac n cc).ownBlock = some y) : (Value.slice ac m cc).ownBlock = some y := by
  cases ac <;> exact h
/-- a row put into a place of rows that are owned: they lie apart from a set as ever -/
theorem PA.put {S : Nat → Prop} {w : World} {base g n cap : Nat} {ls : List (List Nat)} {X : Nat → Prop} (h : OwnD w base (.slice (some ⟨g, 0, none⟩) n cap) ls X) (hS : ∀ y, S y → y < base) {k : Nat} (hk : k < ls.length) {c : Value} {p : List Nat}
    (hc : Byt w c p) (hcb : p ≠ [] → ∀ y, c.ownBlock = some y → base ≤ y ∧ y ≠ g) : PA S (w.setCell ⟨g, k, none⟩ c) (.slice (some ⟨g, 0, none⟩) n cap) (ls.set k p) ∧ w.grownBy (w.setCell ⟨g, k, none⟩ c) (some g) := by
  obtain ⟨cs, h1, h2, _⟩ := h
  have hn : n = ls.length := by
    rcases h1.2 with ⟨e, _⟩ | ⟨g', cap', cur, e, _⟩
    · cases e
    · cases e; rfl
  subst hn
  obtain ⟨h3, h4⟩ := h1.stored k c
  refine ⟨PA.of_rowB (base := base) (cs := cs.set k c) (by rw [List.length_set]; exact h3) (by rw [List.length_set, List.length_set]; have := h1.1; omega) hS fun i hi => ?_, h4⟩
  rw [List.length_set] at hi
  by_cases hik : k = i
  · subst hik
    have hcl : k < cs.length := by have := h1.1; omega
    refine ⟨c, by rw [List.getElem?_set_self hcl], ?_, fun a y hy hs => ?_⟩
    · rw [getD_setS hk]
      by_cases hp : p = []
      · obtain ⟨ao, cap', e, a1, a2, a0, a3, _⟩ := hc
        exact ⟨ao, cap', e, a1, a2, a0, a3, .inl (by rw [hp]; rfl)⟩
      · exact hc.keptB h4 (.inr fun y hy e => by cases e; exact (hcb hp _ hy).2 rfl)
    · rw [getD_setS hk] at a
      have := (hcb a y hy).1; have := hS y hs; omega
  · obtain ⟨d, hd, hod, _⟩ := h2 i hi
    refine ⟨d, by rw [List.getElem?_set_ne hik]; exact hd, ?_, fun a y hy hs => ?_⟩
    · rw [getD_setN (fun e => hik e)]
      refine hod.byt.keptB h4 (.inr fun y hy e => ?_)
      cases e
      rcases rows_apart h1 hod with e3 | e3
      · rw [e3] at hy; cases hy
      · exact e3 (by rw [hy]; rfl)
    · have := (hod.2.lt y hy).1; have := hS y hs; omega
end Go.Proofs.Ytenjpldinnbcbaa
