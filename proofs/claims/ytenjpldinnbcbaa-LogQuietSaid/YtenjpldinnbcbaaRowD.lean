/- Merged: RowB, RowD. -/
import Derived.Test.YtenjpldinnbcbaaOwnD
import Derived.Test.YtenjpldinnbcbaaInfo
/- A row of rows that is owned, whose rows may be read: a row put into a place, one more behind. Four rows just made. Over any program. -/

namespace Go.Proofs.Ytenjpldinnbcbaa
open Go.RowKit
set_option linter.unusedVariables false
set_option linter.unusedSimpArgs false

theorem OwnD.four {W : World} {base g1 g2 g3 g4 : Nat} {l1 l2 l3 l4 : List Nat} {n1 n2 n3 n4 k1 k2 k3 k4 : Nat} (O1 : Own W base (.slice (some ⟨g1, 0, none⟩) n1 k1) l1) (O2 : Own W base (.slice (some ⟨g2, 0, none⟩) n2 k2) l2) (O3 : Own W base (.slice (some ⟨g3, 0, none⟩) n3 k3) l3) (O4 : Own W base (.slice (some ⟨g4, 0, none⟩) n4 k4) l4)
    (h12 : g1 ≠ g2) (h13 : g1 ≠ g3) (h14 : g1 ≠ g4) (h23 : g2 ≠ g3) (h24 : g2 ≠ g4) (h34 : g3 ≠ g4) (hb : base ≤ W.heap.size) :
    OwnD (W.alloc (.cells #[.slice (some ⟨g1, 0, none⟩) n1 k1, .slice (some ⟨g2, 0, none⟩) n2 k2, .slice (some ⟨g3, 0, none⟩) n3 k3, .slice (some ⟨g4, 0, none⟩) n4 k4] 48)) base (.slice (some ⟨W.heap.size, 0, none⟩) 4 4) [l1, l2, l3, l4] (fun _ => False) := by
  refine ⟨[.slice (some ⟨g1, 0, none⟩) n1 k1, .slice (some ⟨g2, 0, none⟩) n2 k2, .slice (some ⟨g3, 0, none⟩) n3 k3, .slice (some ⟨g4, 0, none⟩) n4 k4], World.ownsRow_lit (base := base) (e := 48) (size := 1) W _ 4 hb (by simp [maxLen]) (by simp), ?_, ?_⟩
  · intro i hi
    have hi' : i = 0 ∨ i = 1 ∨ i = 2 ∨ i = 3 := by simp at hi; omega
    rcases hi' with rfl | rfl | rfl | rfl
    · exact ⟨_, rfl, O1.up (belA1 (belR _)), fun _ _ h => h⟩
    · exact ⟨_, rfl, O2.up (belA1 (belR _)), fun _ _ h => h⟩
    · exact ⟨_, rfl, O3.up (belA1 (belR _)), fun _ _ h => h⟩
    · exact ⟨_, rfl, O4.up (belA1 (belR _)), fun _ _ h => h⟩
  · intro i j c d g hi hj hc hd
    have key : ∀ (i : Nat) (c : Value), ([.slice (some ⟨g1, 0, none⟩) n1 k1, .slice (some ⟨g2, 0, none⟩) n2 k2, .slice (some ⟨g3, 0, none⟩) n3 k3, .slice (some ⟨g4, 0, none⟩) n4 k4] : List Value)[i]? = some c → c.ownBlock = some g → (i = 0 ∧ g = g1) ∨ (i = 1 ∧ g = g2) ∨ (i = 2 ∧ g = g3) ∨ (i = 3 ∧ g = g4) := by
      intro i c hi hc
      match i, hi with
      | 0, hi => cases hi; cases hc; exact .inl ⟨rfl, rfl⟩
      | 1, hi => cases hi; cases hc; exact .inr (.inl ⟨rfl, rfl⟩)
      | 2, hi => cases hi; cases hc; exact .inr (.inr (.inl ⟨rfl, rfl⟩))
      | 3, hi => cases hi; cases hc; exact .inr (.inr (.inr ⟨rfl, rfl⟩))
    rcases key i c hi hc with ⟨a1, a2⟩ | ⟨a1, a2⟩ | ⟨a1, a2⟩ | ⟨a1, a2⟩ <;> rcases key j d hj hd with ⟨b1, b2⟩ | ⟨b1, b2⟩ | ⟨b1, b2⟩ | ⟨b1, b2⟩ <;> omega
/-- a row of rows owned, each of them may be read and lies elsewhere -/
def RowB (w : World) (base : Nat) (v : Value) (ls : List (List Nat)) : Prop :=
  ∃ cs, w.ownsRow base 48 1 v ls.length cs ∧ ∀ i, i < ls.length → ∃ c, cs[i]? = some c ∧ Byt w c (ls.getD i []) ∧ (ls.getD i [] = [] ∨ ∀ g, c.ownBlock = some g → v.ownBlock ≠ some g)
theorem OwnD.toB {w : World} {base : Nat} {v : Value} {ls : List (List Nat)} {X : Nat → Prop} (h : OwnD w base v ls X) : RowB w base v ls := by
  obtain ⟨cs, h1, h2, _⟩ := h
  refine ⟨cs, h1, fun i hi => ?_⟩
  obtain ⟨c, e, hc, _⟩ := h2 i hi
  refine ⟨c, e, hc.byt, .inr fun g hg e2 => ?_⟩
  rcases rows_apart h1 hc with e3 | e3
  · rw [e3] at hg; cases hg
  · exact e3 (by rw [hg, e2])
theorem RowB.up {w w1 : World} {base : Nat} {v : Value} {ls : List (List Nat)} (h : RowB w base v ls) (hb : Below w.heap.size w w1) : RowB w1 base v ls := by
  obtain ⟨cs, h1, h2⟩ := h
  exact ⟨cs, row_up h1 hb, fun i hi => let ⟨c, e, hc, hx⟩ := h2 i hi; ⟨c, e, hc.up hb, hx⟩⟩
theorem RowB.parts {w : World} {base : Nat} {v : Value} {ls : List (List Nat)} (h : RowB w base v ls) : Parts w v ls := by
  obtain ⟨cs, h1, h2⟩ := h
  exact Parts.of_own h1 (by have := h1.1; omega) fun i hi => let ⟨c, e, hc, _⟩ := h2 i hi; ⟨c, e, hc⟩
theorem RowB.ge {w : World} {base : Nat} {v : Value} {ls : List (List Nat)} (h : RowB w base v ls) : ∀ g, v.ownBlock = some g → base ≤ g := fun g hg => let ⟨_, h1, _⟩ := h; (h1.lt g hg).1
theorem RowB.shape {w : World} {base : Nat} {v : Value} {ls : List (List Nat)} (h : RowB w base v ls) (h0 : 0 < ls.length) : ∃ g cap, v = .slice (some ⟨g, 0, none⟩) ls.length cap ∧ base ≤ g ∧ g < w.heap.size ∧ ls.length ≤ cap ∧ cap ≤ 9223372036854775807 := by
  obtain ⟨cs, h1, _⟩ := h
  obtain ⟨g, cap, e, a, b, c, d⟩ := own_shape h1 h0
  exact ⟨g, cap, e, a, b, c, d⟩
/-- a place: its cell -/
theorem RowB.get {w : World} {base g n cap : Nat} {ls : List (List Nat)} (h : RowB w base (.slice (some ⟨g, 0, none⟩) n cap) ls) {k : Nat} (hk : k < ls.length) :
    ∃ c p, w.cell? ⟨g, k, none⟩ = some c ∧ w.frozen? ⟨g, k, none⟩ = false ∧ Hid (ls[k]? = some p) ∧ Byt w c p ∧ (p = [] ∨ ∀ b, c.ownBlock = some b → g ≠ b) := by
  obtain ⟨cs, h1, h2⟩ := h
  have hn : n = ls.length := by
    rcases h1.2 with ⟨e, _⟩ | ⟨g', cap', cur, e, _⟩
    · cases e
    · cases e; rfl
  subst hn
  obtain ⟨c, e, hc, hx⟩ := h2 k hk
  refine ⟨c, _, ?_, h1.frozenAt k, getD_get _ hk, hc, hx.imp id (fun h b hb e => h b hb (by rw [← e]; rfl))⟩
  rw [h1.cellAt k (by omega)]
  exact e
/-- a row put into a place -/
theorem RowB.put {w : World} {base g n cap : Nat} {ls : List (List Nat)} (h : RowB w base (.slice (some ⟨g, 0, none⟩) n cap) ls) {k : Nat} (hk : k < ls.length) {c : Value} {p : List Nat} (hc : Byt w c p) (hx : p = [] ∨ ∀ b, c.ownBlock = some b → g ≠ b) :
    RowB (w.setCell ⟨g, k, none⟩ c) base (.slice (some ⟨g, 0, none⟩) n cap) (ls.set k p) := by
  obtain ⟨cs, h1, h2⟩ := h
  have hcl : cs.length = ls.length := by have := h1.1; omega
  have hn : n = ls.length := by
    rcases h1.2 with ⟨e, _⟩ | ⟨g', cap', cur, e, _⟩
    · cases e
    · cases e; rfl
  subst hn
  obtain ⟨r1, r2⟩ := h1.stored k c
  refine ⟨cs.set k c, by rw [List.length_set]; exact r1, fun i hi => ?_⟩
  rw [List.length_set] at hi
  by_cases hik : i = k
  · subst hik
    have e : (ls.set i p).getD i [] = p := by rw [List.getD_eq_getElem?_getD, List.getElem?_set_self hk]; rfl
    rw [e]
    exact ⟨c, List.getElem?_set_self (by omega), hc.keptB r2 (hx.imp id (fun h b hb e => h b hb (by cases e; rfl))), hx.imp id (fun h b hb e => h b hb (by cases e; rfl))⟩
  · obtain ⟨d, e, hd, hy⟩ := h2 i hi
    have e2 : (ls.set k p).getD i [] = ls.getD i [] := by rw [List.getD_eq_getElem?_getD, List.getElem?_set_ne (fun e => hik e.symm), ← List.getD_eq_getElem?_getD]
    rw [e2]
    exact ⟨d, by rw [List.getElem?_set_ne (fun e => hik e.symm)]; exact e, hd.keptB r2 hy, hy⟩
/-- the first ones -/
theorem Parts.firsts {w : World} {ao : Option Addr} {n cap k : Nat} {ls : List (List Nat)} (h : Parts w (.slice ao n cap) ls) (hk : k ≤ n) : Parts w (.slice ao k cap) (ls.take k) := h.takeI hk
/-- append(rows, row): any row that may be read -/
theorem wpList_append_rowB {P : Program} {w : World} {ops : Array Oper} {rest : List Oper} {o : Oper} {a : Act} {Q : Exit → Act → World → Prop} (hgd : o.guard = none) (s x : Operand) (t : TypeId)
    (ho : o.op = .call { callee := .builtin .append, args := #[s, x], argTypes := #[t, t] })
    (i : TypeInfo) (ht : P.underlying t = some (.slice 48)) (hi : P.info? 48 = some i) (hz : i.zero = some (.slice none 0 0)) (hsize : i.size = 1) (hby : i.bytes = 24)
    (base : Nat) (v : Value) (ls : List (List Nat)) (hs : a.eval s = v) (hown : RowB w base v ls) (ad : Addr) (c : Value) (l : List Nat) (hx : a.eval x = .slice (some ad) 1 1) (hat : At w (some ad) [c]) (hc : Byt w c l) (hcx : l = [] ∨ ∀ g, c.ownBlock = some g → v.ownBlock ≠ some g)
    (h63 : ls.length ≤ 1000) (hbase : base ≤ w.heap.size)
    (h : ∀ v' w', Parts w' v' (ls ++ [l]) → w.grownBy w' v.ownBlock → wpList P ops Q rest (a.put o.dst v') w') : wpList P ops Q (o :: rest) a w := by
  obtain ⟨cs, h1, h2⟩ := hown
  have hcl : cs.length = ls.length := by have := h1.1; omega
  refine wpList_append_at hgd s x t ho base 48 i (.slice none 0 0) 1 24 ht hi hz hsize hby rfl (by decide) v ls.length cs hs h1 (some ad) 1 1 [c] hx (fun e => by cases e) (Nat.le_refl _) rfl hat (fun u hu => by rw [List.mem_singleton.1 hu]; exact hc.one) (by simp only [maxLen]; omega) (by omega) hbase ?_
  intro v' w' ho hg _
  refine h v' w' (Parts.of_own ho (by rw [List.length_append, List.length_append, hcl]; rfl) fun j hj => ?_) hg
  rw [List.length_append, List.length_singleton] at hj
  by_cases hjl : j < ls.length
  · obtain ⟨d, e, hd, hy⟩ := h2 j hjl
    refine ⟨d, by rw [List.getElem?_append_left (by omega)]; exact e, ?_⟩
    have e2 : (ls ++ [l]).getD j [] = ls.getD j [] := by simp [List.getD, List.getElem?_append_left hjl]
    rw [e2]
    exact hd.keptB hg hy
  · have e : j = ls.length := by omega
    subst e
    refine ⟨c, by rw [List.getElem?_append_right (by omega)]; simp [hcl], ?_⟩
    have e2 : (ls ++ [l]).getD ls.length [] = l := by simp [List.getD]
    rw [e2]
    exact hc.keptB hg hcx
end Go.Proofs.Ytenjpldinnbcbaa
/- A row of rows, owned in blocks unlike one another: made empty, a new row put into a place. Over any program. -/

namespace Go.Proofs.Ytenjpldinnbcbaa
open Go.RowKit
set_option linter.unusedVariables false
set_option linter.unusedSimpArgs false

theorem getD_setN {ls : List (List Nat)} {i k : Nat} {p : List Nat} (h : k ≠ i) : (ls.set k p).getD i [] = ls.getD i [] := by rw [List.getD_eq_getElem?_getD, List.getElem?_set_ne h, ← List.getD_eq_getElem?_getD]
theorem getD_setS {ls : List (List Nat)} {k : Nat} {p : List Nat} (h : k < ls.length) : (ls.set k p).getD k [] = p := by rw [List.getD_eq_getElem?_getD, List.getElem?_set_self h]; rfl
/-- a row new since w1 put into a place of rows as they were there -/
theorem OwnD.put {w1 w : World} {base g n cap : Nat} {ls : List (List Nat)} {X : Nat → Prop} (hown : OwnD w1 base (.slice (some ⟨g, 0, none⟩) n cap) ls X) (hB : Below w1.heap.size w1 w) (hX : ∀ x, X x → x < w1.heap.size) (hbase : base ≤ w1.heap.size) {k : Nat} (hk : k < ls.length) {c : Value} {p : List Nat} (hc : Own w w1.heap.size c p) :
    OwnD (w.setCell ⟨g, k, none⟩ c) base (.slice (some ⟨g, 0, none⟩) n cap) (ls.set k p) X := by
  have hlt : ∀ i c', i < ls.length → Own w1 base c' (ls.getD i []) → ∀ y, c'.ownBlock = some y → y < w1.heap.size := fun i c' _ hc' y hy => hc'.lt y hy
  obtain ⟨cs, h0, h2, h3⟩ := hown
  have hg1 : g < w1.heap.size := (h0.lt g rfl).2
  have h1 := row_up h0 hB
  have hcl : cs.length = ls.length := by have := h0.1; omega
  have hn : n = ls.length := by
    rcases h0.2 with ⟨e, _⟩ | ⟨g', cap', cur, e, _⟩
    · cases e
    · cases e; rfl
  subst hn
  obtain ⟨r1, r2⟩ := h1.stored k c
  have keep : ∀ {b' : Nat} {v : Value} {l : List Nat}, Own w b' v l → (∀ y, v.ownBlock = some y → g ≠ y) → Own (w.setCell ⟨g, k, none⟩ c) b' v l := fun h hne => h.keep r2 (fun y hy e => hne y hy (by cases e; rfl))
  have apart : ∀ i d, cs[i]? = some d → Own w1 base d (ls.getD i []) → ∀ y, d.ownBlock = some y → g ≠ y := fun i d hd hod y hy e => by
    rcases rows_apart h0 hod with e3 | e3
    · rw [e3] at hy; cases hy
    · exact e3 (by rw [hy, ← e]; rfl)
  refine ⟨cs.set k c, by rw [List.length_set]; exact r1, fun i hi => ?_, fun i j c1 d1 y hi hj hc1 hd1 => ?_⟩
  · rw [List.length_set] at hi
    by_cases hik : i = k
    · subst hik
      rw [getD_setS hk]
      exact ⟨c, List.getElem?_set_self (by omega), own_mono (keep hc fun y hy e => by have := hc.ge y hy; omega) hbase, fun y hy hxy => by have := hc.ge y hy; have := hX y hxy; omega⟩
    · obtain ⟨d, e, hd, hy⟩ := h2 i hi
      rw [getD_setN (fun e => hik e.symm)]
      exact ⟨d, by rw [List.getElem?_set_ne (fun e => hik e.symm)]; exact e, keep (hd.up hB) (apart i d e hd), hy⟩
  · have key : ∀ (i : Nat) (c1 : Value), (cs.set k c)[i]? = some c1 → c1.ownBlock = some y → (i = k ∧ w1.heap.size ≤ y) ∨ (i ≠ k ∧ cs[i]? = some c1 ∧ y < w1.heap.size) := by
      intro i c1 hi hc1
      by_cases hik : i = k
      · subst hik
        rw [List.getElem?_set_self (by omega)] at hi
        cases hi
        exact .inl ⟨rfl, hc.ge y hc1⟩
      · rw [List.getElem?_set_ne (fun e => hik e.symm)] at hi
        have hil : i < ls.length := by have := (List.getElem?_eq_some_iff.1 hi).1; omega
        obtain ⟨d, e, hd, _⟩ := h2 i hil
        rw [hi] at e
        cases e
        exact .inr ⟨hik, hi, hlt i _ hil hd y hc1⟩
    rcases key i c1 hi hc1 with ⟨a1, a2⟩ | ⟨a1, a2, a3⟩ <;> rcases key j d1 hj hd1 with ⟨b1, b2⟩ | ⟨b1, b2, b3⟩
    · rw [a1, b1]
    · omega
    · omega
    · exact h3 i j c1 d1 y a2 b2 hc1 hd1
theorem OwnD.at {w : World} {base g n cap : Nat} {ls : List (List Nat)} {X : Nat → Prop} (h : OwnD w base (.slice (some ⟨g, 0, none⟩) n cap) ls X) {k : Nat} (hk : k < ls.length) : ∃ c p, w.cell? ⟨g, k, none⟩ = some c ∧ w.frozen? ⟨g, k, none⟩ = false ∧ Hid (ls[k]? = some p) ∧ Byt w c p := by
  obtain ⟨c, p, a, b, d, e, _⟩ := h.toB.get hk
  exact ⟨c, p, a, b, d, e⟩
/-- make([][]byte, n) -/
theorem wpList_make_rows {P : Program} {w : World} {ops : Array Oper} {rest : List Oper} {o : Oper} {a : Act} {Q : Exit → Act → World → Prop}
    (hg : o.guard = none) (l c : Operand) (t : TypeId) (hop : o.op = Op.makeSlice t l c)
    (i : TypeInfo) (h1 : P.underlying t = some (.slice 48)) (h2 : P.info? 48 = some i) (h3 : i.zero = some (.slice none 0 0)) (h4 : i.size = 1) (h5 : i.bytes = 24)
    (kl kc : IntKind) (L C : Int) (n : Nat) (hl : a.eval l = .int kl L) (hc : a.eval c = .int kc C) (hL : L = (n : Int)) (hC : C = (n : Int)) (hn : n ≤ 100000) (X : Nat → Prop)
    (hK : ∀ w', OwnD w' w.heap.size (.slice (some ⟨w.heap.size, 0, none⟩) n n) (List.replicate n []) X → Below w.heap.size w w' → wpList P ops Q rest (a.put o.dst (.slice (some ⟨w.heap.size, 0, none⟩) n n)) w') :
    wpList P ops Q (o :: rest) a w := by
  refine wpList_make_full w hg l c t hop w.heap.size 48 i (.slice none 0 0) 1 h1 h2 h3 h4 kl kc L C n hl hc hL hC (by rw [h5]; omega) (by simp only [maxLen]; omega) (Nat.le_refl _) ?_
  intro w' ho hgr
  have e : (madeCells (Value.cells (.slice none 0 0)) (n * 1)).toList = List.replicate n (.slice none 0 0) := by
    rw [Nat.mul_one]; exact madeCells_one _ _
  rw [e] at ho
  refine hK w' ⟨List.replicate n (.slice none 0 0), by rw [List.length_replicate]; exact ho, fun i hi => ?_, fun i j c1 d1 y hi hj hc1 hd1 => ?_⟩ (grown_below hgr)
  · rw [List.length_replicate] at hi
    refine ⟨.slice none 0 0, by rw [List.getElem?_replicate, if_pos hi], ?_, fun g hg => by cases hg⟩
    rw [show (List.replicate n ([] : List Nat)).getD i [] = [] by rw [List.getD_eq_getElem?_getD, List.getElem?_replicate, if_pos hi]; rfl]
    exact Own.empty _ _
  · have hi' : i < n := by have := (List.getElem?_eq_some_iff.1 hi).1; simpa using this
    rw [List.getElem?_replicate, if_pos hi'] at hi
    cases hi
    cases hc1
end Go.Proofs.Ytenjpldinnbcbaa
