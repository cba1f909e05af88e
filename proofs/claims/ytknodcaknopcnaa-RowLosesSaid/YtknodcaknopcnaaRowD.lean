/- A row of rows, owned in blocks unlike one another: made empty, a new row put into a place. Over any program. -/
import Derived.Test.YtknodcaknopcnaaRowB
namespace Go.Proofs.Ytknodcaknopcnaa
open Go.RowKit
set_option linter.unusedVariables false
set_option linter.unusedSimpArgs false

theorem getD_setN {ls : List (List Nat)} {i k : Nat} {p : List Nat} (h : k ≠ i) : (ls.set k p).getD i [] = ls.getD i [] := by rw [List.getD_eq_getElem?_getD, List.getElem?_set_ne h, ← List.getD_eq_getElem?_getD]
theorem getD_setS {ls : List (List Nat)} {k : Nat} {p : List Nat} (h : k < ls.length) : (ls.set k p).getD k [] = p := by rw [List.getD_eq_getElem?_getD, List.getElem?_set_self h]; rfl
/-- a row new since w1 put into a place of rows as they were there -/
theorem OwnD.put {w1 w : World} {base g n cap : Nat} {ls : List (List Nat)} {X : Nat → Prop} (hown : OwnD w1 base (.slice (some ⟨g, 0, none⟩) n cap) ls X) (hB : Below w1.heap.size w1 w) (hX : ∀ x, X x → x < w1.heap.size) (hbase : base ≤ w1.heap.size) {k : Nat} (hk : k < ls.length) {c : Value} {p : List Nat} (hc : Own w w1.heap.size c p) :
    OwnD (w.setCell ⟨g, k, none⟩ c) base (.slice (some ⟨g, 0, none⟩) n cap) (ls.set k p) X := by
  have hlt : ∀ i c', i < ls.length → Own w1 base c' (ls.getD i []) → ∀ y, c'.ownBlock = some y → y < w1.heap.size := fun i c' _ hc' y hy => hc'.lt y hy
  obtain ⟨cs, h0, h2, h3⟩ := hown
  have hg1 : g < w1.heap.size := (h0.lt g rfl).2
  have h1 := row_up h0 hB
  have hcl : cs.length = ls.length := by have := h0.1; omega
  have hn : n = ls.length := by
    rcases h0.2 with ⟨e, _⟩ | ⟨g', cap', cur, e, _⟩
    · cases e
    · cases e; rfl
  subst hn
  obtain ⟨r1, r2⟩ := h1.stored k c
  have keep : ∀ {b' : Nat} {v : Value} {l : List Nat}, Own w b' v l → (∀ y, v.ownBlock = some y → g ≠ y) → Own (w.setCell ⟨g, k, none⟩ c) b' v l := fun h hne => h.keep r2 (fun y hy e => hne y hy (by cases e; rfl))
  have apart : ∀ i d, cs[i]? = some d → Own w1 base d (ls.getD i []) → ∀ y, d.ownBlock = some y → g ≠ y := fun i d hd hod y hy e => by
    rcases rows_apart h0 hod with e3 | e3
    · rw [e3] at hy; cases hy
    · exact e3 (by rw [hy, ← e]; rfl)
  refine ⟨cs.set k c, by rw [List.length_set]; exact r1, fun i hi => ?_, fun i j c1 d1 y hi hj hc1 hd1 => ?_⟩
  · rw [List.length_set] at hi
    by_cases hik : i = k
    · subst hik
      rw [getD_setS hk]
      exact ⟨c, List.getElem?_set_self (by omega), own_mono (keep hc fun y hy e => by have := hc.ge y hy; omega) hbase, fun y hy hxy => by have := hc.ge y hy; have := hX y hxy; omega⟩
    · obtain ⟨d, e, hd, hy⟩ := h2 i hi
      rw [getD_setN (fun e => hik e.symm)]
      exact ⟨d, by rw [List.getElem?_set_ne (fun e => hik e.symm)]; exact e, keep (hd.up hB) (apart i d e hd), hy⟩
  · have key : ∀ (i : Nat) (c1 : Value), (cs.set k c)[i]? = some c1 → c1.ownBlock = some y → (i = k ∧ w1.heap.size ≤ y) ∨ (i ≠ k ∧ cs[i]? = some c1 ∧ y < w1.heap.size) := by
      intro i c1 hi hc1
      by_cases hik : i = k
      · subst hik
        rw [List.getElem?_set_self (by omega)] at hi
        cases hi
        exact .inl ⟨rfl, hc.ge y hc1⟩
      · rw [List.getElem?_set_ne (fun e => hik e.symm)] at hi
        have hil : i < ls.length := by have := (List.getElem?_eq_some_iff.1 hi).1; omega
        obtain ⟨d, e, hd, _⟩ := h2 i hil
        rw [hi] at e
        cases e
        exact .inr ⟨hik, hi, hlt i _ hil hd y hc1⟩
    rcases key i c1 hi hc1 with ⟨a1, a2⟩ | ⟨a1, a2, a3⟩ <;> rcases key j d1 hj hd1 with ⟨b1, b2⟩ | ⟨b1, b2, b3⟩
    · rw [a1, b1]
    · omega
    · omega
    · exact h3 i j c1 d1 y a2 b2 hc1 hd1
theorem OwnD.at {w : World} {base g n cap : Nat} {ls : List (List Nat)} {X : Nat → Prop} (h : OwnD w base (.slice (some ⟨g, 0, none⟩) n cap) ls X) {k : Nat} (hk : k < ls.length) : ∃ c p, w.cell? ⟨g, k, none⟩ = some c ∧ w.frozen? ⟨g, k, none⟩ = false ∧ Hid (ls[k]? = some p) ∧ Byt w c p := by
  obtain ⟨c, p, a, b, d, e, _⟩ := h.toB.get hk
  exact ⟨c, p, a, b, d, e⟩
/-- make([][]byte, n) -/
theorem wpList_make_rows {P : Program} {w : World} {ops : Array Oper} {rest : List Oper} {o : Oper} {a : Act} {Q : Exit → Act → World → Prop}
    (hg : o.guard = none) (l c : Operand) (t : TypeId) (hop : o.op = Op.makeSlice t l c)
    (i : TypeInfo) (h1 : P.underlying t = some (.slice 22)) (h2 : P.info? 22 = some i) (h3 : i.zero = some (.slice none 0 0)) (h4 : i.size = 1) (h5 : i.bytes = 24)
    (kl kc : IntKind) (L C : Int) (n : Nat) (hl : a.eval l = .int kl L) (hc : a.eval c = .int kc C) (hL : L = (n : Int)) (hC : C = (n : Int)) (hn : n ≤ 100000) (X : Nat → Prop)
    (hK : ∀ w', OwnD w' w.heap.size (.slice (some ⟨w.heap.size, 0, none⟩) n n) (List.replicate n []) X → Below w.heap.size w w' → wpList P ops Q rest (a.put o.dst (.slice (some ⟨w.heap.size, 0, none⟩) n n)) w') :
    wpList P ops Q (o :: rest) a w := by
  refine wpList_make_full w hg l c t hop w.heap.size 22 i (.slice none 0 0) 1 h1 h2 h3 h4 kl kc L C n hl hc hL hC (by rw [h5]; omega) (by simp only [maxLen]; omega) (Nat.le_refl _) ?_
  intro w' ho hgr
  have e : (madeCells (Value.cells (.slice none 0 0)) (n * 1)).toList = List.replicate n (.slice none 0 0) := by
    rw [Nat.mul_one]; exact madeCells_one _ _
  rw [e] at ho
  refine hK w' ⟨List.replicate n (.slice none 0 0), by rw [List.length_replicate]; exact ho, fun i hi => ?_, fun i j c1 d1 y hi hj hc1 hd1 => ?_⟩ (grown_below hgr)
  · rw [List.length_replicate] at hi
    refine ⟨.slice none 0 0, by rw [List.getElem?_replicate, if_pos hi], ?_, fun g hg => by cases hg⟩
    rw [show (List.replicate n ([] : List Nat)).getD i [] = [] by rw [List.getD_eq_getElem?_getD, List.getElem?_replicate, if_pos hi]; rfl]
    exact Own.empty _ _
  · have hi' : i < n := by have := (List.getElem?_eq_some_iff.1 hi).1; simpa using this
    rw [List.getElem?_replicate, if_pos hi'] at hi
    cases hi
    cases hc1
end Go.Proofs.Ytknodcaknopcnaa
