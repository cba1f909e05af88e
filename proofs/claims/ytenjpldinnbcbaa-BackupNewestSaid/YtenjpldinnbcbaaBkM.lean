/- More of what stands behind a Put; numbers that lie apart. -/
import Derived.Test.YtenjpldinnbcbaaBkL
import Derived.Test.YtenjpldinnbcbaaBenchY
namespace Go.Proofs.Ytenjpldinnbcbaa
open Go.RowKit
set_option linter.unusedVariables false
set_option linter.unusedSimpArgs false
set_option maxRecDepth 100000

def IA (S : Nat → Prop) (w : World) (v : Value) (l : List Int) : Prop := Ints w v l ∧ (l ≠ [] → ∀ y, v.ownBlock = some y → ¬ S y)
theorem IA.ints {S : Nat → Prop} {w : World} {v : Value} {l : List Int} (h : IA S w v l) : Ints w v l := h.1
theorem IA.up {S : Nat → Prop} {w w' : World} {v : Value} {l : List Int} (h : IA S w v l) (k : Below w.heap.size w w') : IA S w' v l := ⟨h.1.up k, h.2⟩
theorem IA.step {S S' : Nat → Prop} {w w' : World} {v : Value} {l : List Int} (h : IA S w v l) (k : Fr S w w') (hS : ∀ y, S' y → S y ∨ w.heap.size ≤ y) : IA S' w' v l := by
  obtain ⟨⟨ao, cap, rfl, h1, h2, h0, h3, hA⟩, hn⟩ := h
  refine ⟨⟨ao, cap, rfl, h1, h2, h0, h3, hA.fr (n := l.length) (cap := cap) k (fun a => hn (by simpa using a))⟩, fun a y hy hs => ?_⟩
  rcases hS y hs with h4 | h4
  · exact hn a y hy h4
  · have := hA.blk (by simpa using a) hy; omega
theorem Ints.lit (w : World) (cs : Array Value) (l : List Int) {n g : Nat} {e : TypeId} (hg : g = w.heap.size) (hn : n = cs.size) (hl : cs.toList = l.map i64v) (hm : l.length ≤ 1048576) (h8 : ∀ x ∈ l, -9223372036854775808 ≤ x ∧ x ≤ 9223372036854775807) : Ints (w.alloc (.cells cs e)) (.slice (some ⟨g, 0, none⟩) n n) l := by
  subst hg; subst hn
  have e : cs.size = l.length := by rw [← Array.length_toList, hl, List.length_map]
  rw [e]
  refine ⟨_, l.length, rfl, Nat.le_refl _, by simp only [maxLen]; omega, (fun h => by cases h), h8, .inr ⟨w.heap.size, 0, rfl, by simp, fun i hi => ?_⟩⟩
  rw [Nat.zero_add, cell_of_row _ w.heap.size i cs _ (0, 0) (heap_alloc_new w _), ← Array.getElem?_toList, hl]
theorem BA.of {S : Nat → Prop} {w : World} {v : Value} {l : List Bool} (h : Bools w v l) (h2 : l ≠ [] → ∀ y, v.ownBlock = some y → ¬ S y) : BA S w v l := ⟨h, h2⟩
namespace B
theorem put_p {b : Bn} {lv : List Bool} {e x : Nat} {data : List (List Nat)} (h : Up b) (hd : ∀ p ∈ data, p.length = 32) (h8 : ∀ p ∈ data, ∀ y ∈ p, y < 256) (hn : data.length ≤ 28) {N : Nat} (hp : ∀ d ∈ b.ds, d.p.length ≤ N) : ∀ d ∈ (putB b lv (headL e x data :: data)).ds, d.p.length ≤ N + 46 := by
  obtain ⟨a1, a2⟩ := put_all (e := e) (x := x) hd h8
  have h52 : 6 + (headL e x data :: data).length ≤ 52 := by simp; omega
  obtain ⟨u, e1, e2, e3⟩ := putW_spec h lv a1 a2 h52 b.ds.length (Nat.le_refl _)
  obtain ⟨f1, f2, f3, f4⟩ := flW_spec u lv b.ds.length (by rw [e2]; exact Nat.le_refl _)
  intro d hd'
  have hd2 : d ∈ (flW (putW b lv (headL e x data :: data) b.ds.length) lv b.ds.length).ds := hd'
  obtain ⟨i, hi, ee⟩ := List.getElem_of_mem hd2
  rw [f3, e2] at hi
  have hg : (flW (putW b lv (headL e x data :: data) b.ds.length) lv b.ds.length).ds.getD i D.blank = d := by
    rw [← ee]; simp [List.getD, f3, e2, hi]
  have hb : (b.ds.getD i D.blank).p.length ≤ N := by
    rw [show b.ds.getD i D.blank = b.ds[i] by simp [List.getD, hi]]
    exact hp _ (List.getElem_mem hi)
  rw [← hg, f4]
  have e4 : ((putW b lv (headL e x data :: data) b.ds.length).ds.getD i D.blank).p.length ≤ N + 46 := by
    rw [e3]
    split
    · rw [wrD_p]
      have : (headL e x data :: data).length ≤ 46 := by simp; omega
      omega
    · omega
  split
  · exact Nat.zero_le _
  · exact e4
end B
end Go.Proofs.Ytenjpldinnbcbaa
