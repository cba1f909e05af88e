/- A slice of slices of bytes that the call owns, each of them its own too: append(rows, row). Over any program. -/
import Derived.Test.YtknodcaknopcnaaMake
import Derived.Test.YtknodcaknopcnaaZero
namespace Go.Proofs.Ytknodcaknopcnaa
open Go.RowKit
set_option linter.unusedVariables false
set_option linter.unusedSimpArgs false

/-- rows that are owned, each owned too -/
def OwnP (w : World) (base : Nat) (v : Value) (ls : List (List Nat)) : Prop :=
  ∃ cs, w.ownsRow base 22 1 v ls.length cs ∧ ∀ i, i < ls.length → ∃ c, cs[i]? = some c ∧ Own w base c (ls.getD i [])
theorem OwnP.nil (w : World) (base : Nat) : OwnP w base (.slice none 0 0) [] := ⟨[], World.ownsRow_nil _ _ _ _, fun i hi => by simp at hi⟩
theorem OwnP.parts {w : World} {base : Nat} {v : Value} {ls : List (List Nat)} (h : OwnP w base v ls) : Parts w v ls := by
  obtain ⟨cs, h1, h2⟩ := h
  exact Parts.of_own h1 (by have := h1.1; omega) fun i hi => let ⟨c, e, hc⟩ := h2 i hi; ⟨c, e, hc.byt⟩
theorem row_up {w w1 : World} {base n size : Nat} {e : TypeId} {v : Value} {xs : List Value} (h : w.ownsRow base e size v n xs) (hb : Below w.heap.size w w1) : w1.ownsRow base e size v n xs := by
  refine ⟨h.1, ?_⟩
  rcases h.2 with h2 | ⟨g, cap, cur, rfl, h3, hg, r⟩
  · exact .inl h2
  · exact .inr ⟨g, cap, cur, rfl, h3, by rw [hb.block g (lt_of_block hg)]; exact hg, r⟩
theorem OwnP.up {w w1 : World} {base : Nat} {v : Value} {ls : List (List Nat)} (h : OwnP w base v ls) (hb : Below w.heap.size w w1) : OwnP w1 base v ls := by
  obtain ⟨cs, h1, h2⟩ := h
  exact ⟨cs, row_up h1 hb, fun i hi => let ⟨c, e, hc⟩ := h2 i hi; ⟨c, e, hc.up hb⟩⟩
theorem OwnP.ge {w : World} {base : Nat} {v : Value} {ls : List (List Nat)} (h : OwnP w base v ls) : ∀ g, v.ownBlock = some g → base ≤ g := fun g hg => let ⟨_, h1, _⟩ := h; (h1.lt g hg).1
/-- a row of rows and a row lie in blocks of unlike types -/
theorem rows_apart {w : World} {base base' n : Nat} {v c : Value} {cs : List Value} {l : List Nat} (h : w.ownsRow base 22 1 v n cs) (h' : Own w base' c l) : c.ownBlock = none ∨ c.ownBlock ≠ v.ownBlock := by
  rcases h'.2.2 with ⟨rfl, _⟩ | ⟨g', cap', cur', rfl, _, hg', _⟩
  · exact .inl rfl
  · right
    rcases h.2 with ⟨rfl, _⟩ | ⟨g, cap, cur, rfl, _, hg, _⟩
    · intro e; cases e
    · intro e
      have e : g = g' := by simpa [Value.ownBlock] using e.symm
      subst e
      rw [hg] at hg'
      simp at hg'
theorem At.one (w : World) (v : Value) (e : TypeId) {g : Nat} {fr : Nat × Nat} (hg : g = w.heap.size) : At (w.alloc (.cells #[v] e fr)) (some ⟨g, 0, none⟩) [v] := by
  subst hg
  refine .inr ⟨w.heap.size, 0, rfl, by simp, fun i hi => ?_⟩
  rw [Nat.zero_add, cell_of_row _ w.heap.size i #[v] e fr (heap_alloc_new w _)]; simp
theorem Own.one {w : World} {base : Nat} {c : Value} {l : List Nat} (h : Own w base c l) : c.oneCell' = true := by
  obtain ⟨ao, cap, rfl, _⟩ := h.byt.shape
  rfl
theorem Own.keptRow {w w' : World} {base base' n : Nat} {v c : Value} {cs : List Value} {l : List Nat} (h' : Own w base' c l) (h : w.ownsRow base 22 1 v n cs) (hg : w.grownBy w' v.ownBlock) : Own w' base' c l := ⟨h'.1, h'.2.kept hg (rows_apart h h')⟩
/-- append(rows, row): rows owned, the row owned -/
theorem wpList_append_row {P : Program} {w : World} {ops : Array Oper} {rest : List Oper} {o : Oper} {a : Act} {Q : Exit → Act → World → Prop} (hgd : o.guard = none) (s x : Operand) (t : TypeId)
    (ho : o.op = .call { callee := .builtin .append, args := #[s, x], argTypes := #[t, t] })
    (i : TypeInfo) (ht : P.underlying t = some (.slice 22)) (hi : P.info? 22 = some i) (hz : i.zero = some (.slice none 0 0)) (hsize : i.size = 1) (hby : i.bytes = 24)
    (base : Nat) (v : Value) (ls : List (List Nat)) (hs : a.eval s = v) (hown : OwnP w base v ls) (ad : Addr) (c : Value) (l : List Nat) (hx : a.eval x = .slice (some ad) 1 1) (hat : At w (some ad) [c]) (hc : Own w base c l)
    (h63 : ls.length ≤ 1048576) (hbase : base ≤ w.heap.size)
    (h : ∀ v' w', OwnP w' base v' (ls ++ [l]) → w.grownBy w' v.ownBlock → wpList P ops Q rest (a.put o.dst v') w') : wpList P ops Q (o :: rest) a w := by
  obtain ⟨cs, h1, h2⟩ := hown
  refine wpList_append_at hgd s x t ho base 22 i (.slice none 0 0) 1 24 ht hi hz hsize hby rfl (by decide) v ls.length cs hs h1 (some ad) 1 1 [c] hx (fun e => by cases e) (Nat.le_refl _) rfl hat (fun u hu => by rw [List.mem_singleton.1 hu]; exact hc.one) (by simp only [maxLen]; omega) (by omega) hbase ?_
  intro v' w' ho hg _
  refine h v' w' ⟨cs ++ [c], by rw [List.length_append]; exact ho, ?_⟩ hg
  have hcl : cs.length = ls.length := by have := h1.1; omega
  intro j hj
  rw [List.length_append, List.length_singleton] at hj
  by_cases hjl : j < ls.length
  · obtain ⟨c', e, hc'⟩ := h2 j hjl
    refine ⟨c', by rw [List.getElem?_append_left (by omega)]; exact e, ?_⟩
    have e2 : (ls ++ [l]).getD j [] = ls.getD j [] := by simp [List.getD, List.getElem?_append_left hjl]
    rw [e2]
    exact hc'.keptRow h1 hg
  · have e : j = ls.length := by omega
    subst e
    refine ⟨c, by rw [List.getElem?_append_right (by omega)]; simp [hcl], ?_⟩
    have e2 : (ls ++ [l]).getD ls.length [] = l := by simp [List.getD]
    rw [e2]
    exact hc.keptRow h1 hg
/-- the first k of what is owned are owned -/
theorem Own.take {w : World} {base g n cap k : Nat} {l : List Nat} (h : Own w base (.slice (some ⟨g, 0, none⟩) n cap) l) (hk : k ≤ n) : Own w base (.slice (some ⟨g, 0, none⟩) k cap) (l.take k) := by
  have hn := h.lenN
  refine ⟨fun x hx => h.1 x (List.mem_of_mem_take hx), by simp, ?_⟩
  rcases h.2.2 with ⟨e, _⟩ | ⟨g', cap', cur, e, h3, hg, h4, h5, h6, h7⟩
  · cases e
  · cases e
    have hl : (l.take k).length = k := by rw [List.length_take]; omega
    rw [hl]
    refine .inr ⟨g, cap, cur, rfl, h3, hg, by omega, h5, h6, ?_⟩
    rw [List.map_take, ← h7, List.take_take, Nat.mul_one, Nat.mul_one, ← hn, Nat.min_eq_left hk]
theorem own_mono {w : World} {base base' : Nat} {v : Value} {l : List Nat} (h : Own w base v l) (hb : base' ≤ base) : Own w base' v l := by
  refine ⟨h.1, h.2.1, ?_⟩
  rcases h.2.2 with h2 | ⟨g, cap, cur, rfl, h3, r⟩
  · exact .inl h2
  · exact .inr ⟨g, cap, cur, rfl, Nat.le_trans hb h3, r⟩
end Go.Proofs.Ytknodcaknopcnaa
