/- Merged: App, OwnD. -/
import Derived.Test.YtenjpldinnbcbaaMoreF
import Derived.Laws.OwnMore
import Derived.ArgAppend
/- Bytes written out are owned; append of bytes as one operation of a region. Over any program. -/

namespace Go.Proofs.Ytenjpldinnbcbaa
open Go.RowKit
set_option linter.unusedVariables false
set_option linter.unusedSimpArgs false

theorem Own.lit (w : World) (cs : Array Value) (l : List Nat) {n g base : Nat} (hg : g = w.heap.size) (hn : n = cs.size) (hl : cs.toList = l.map u8v) (h8 : ∀ x ∈ l, x < 256) (hm : l.length ≤ 1048576) (hb : base ≤ w.heap.size) :
    Own (w.alloc (.cells cs 5)) base (.slice (some ⟨g, 0, none⟩) n n) l := by
  subst hn
  subst hg
  have hs : cs.size = l.length := by have := congrArg List.length hl; simpa using this
  refine ⟨h8, ?_⟩
  have h := World.ownsRow_lit (base := base) (e := 5) (size := 1) w cs cs.size hb (by rw [hs]; simp [maxLen]; omega) (by simp)
  rw [hl] at h
  rw [← hs]
  exact h
theorem wp_append_bytes {P : Program} {w : World} {o : Oper} {a : Act} {K : Act → World → Prop} {Q : Exit → Act → World → Prop} (s x : Operand) (t : TypeId)
    (ho : o.op = .call { callee := .builtin .append, args := #[s, x], argTypes := #[t, t] })
    (i : TypeInfo) (ht : P.underlying t = some (.slice 5)) (hi : P.info? 5 = some i) (hz : i.zero = some (.int .u8 0)) (hsize : i.size = 1) (hby : i.bytes = 1)
    (base : Nat) (v : Value) (l : List Nat) (hs : a.eval s = v) (hown : Own w base v l) (b off n c : Nat) (m : List Nat) (hx : a.eval x = .slice (some ⟨b, off, none⟩) n c) (hsrc : Byt w (.slice (some ⟨b, off, none⟩) n c) m)
    (h63 : l.length + m.length ≤ 1048576) (hbase : base ≤ w.heap.size)
    (h : ∀ v' w', Own w' base v' (l ++ m) → w.grownBy w' v.ownBlock → K (a.put o.dst v') w') : o.wp P a w K Q := by
  obtain ⟨ao, cap, e, h1, h2, h0, h3, hA⟩ := hsrc
  cases e
  obtain ⟨v', w', hr, h4, h5, _⟩ := run_append_own (P := P) w base t o.type 5 i (.int .u8 0) 1 1 ht hi hz hsize hby rfl (by decide) v l.length (l.map u8v) hown.2 ⟨b, off, none⟩ m.length c (m.map u8v) (by simp) (by
    intro j u hj
    rcases hA with hA | ⟨b', off', e, _, hc⟩
    · have : m = [] := by simpa using hA
      subst this; simp at hj
    · cases e
      obtain ⟨hlt, hju⟩ := List.getElem?_eq_some_iff.1 hj
      rw [WideShapes.add_plain, hc j hlt]
      exact hj) (u8v_one _) (by simp only [maxLen]; omega) (by omega) hbase
  unfold Oper.wp execOp
  simp only [ho, resolve, invoke, builtin, Sem.run_bind, Sem.run_pure, Result.andThen_ok, List.map_toArray, List.map_cons, List.map_nil, hs, hx, hr]
  refine h v' w' ⟨?_, ?_⟩ h5
  · intro y hy
    rcases List.mem_append.1 hy with h5 | h5
    · exact hown.1 y h5
    · exact h3 y h5
  · rw [List.length_append, List.map_append]; exact h4
/-- append onto bytes whose row is full: always new memory -/
theorem wpList_append_full {P : Program} {w : World} {ops : Array Oper} {rest : List Oper} {o : Oper} {a : Act} {Q : Exit → Act → World → Prop} (hgd : o.guard = none) (s x : Operand) (t : TypeId)
    (ho : o.op = .call { callee := .builtin .append, args := #[s, x], argTypes := #[t, t] })
    (i : TypeInfo) (ht : P.underlying t = some (.slice 5)) (hi : P.info? 5 = some i) (hz : i.zero = some (.int .u8 0)) (hsize : i.size = 1) (hby : i.bytes = 1)
    (b off n : Nat) (l : List Nat) (hs : a.eval s = .slice (some ⟨b, off, none⟩) n n) (hown : Byt w (.slice (some ⟨b, off, none⟩) n n) l) (b' off' n' c' : Nat) (m : List Nat) (hx : a.eval x = .slice (some ⟨b', off', none⟩) n' c') (hsrc : Byt w (.slice (some ⟨b', off', none⟩) n' c') m) (h0 : 0 < m.length)
    (h63 : l.length + m.length ≤ 1048576)
    (h : ∀ v' w', Own w' w.heap.size v' (l ++ m) → w.grownBy w' none → wpList P ops Q rest (a.put o.dst v') w') : wpList P ops Q (o :: rest) a w := by
  have cells : ∀ {bb oo : Nat} {l : List Nat}, At w (some ⟨bb, oo, none⟩) (l.map u8v) → ∀ j u, (l.map u8v)[j]? = some u → w.cell? ((⟨bb, oo, none⟩ : Addr).add j) = some u := by
    intro bb oo l hA j u hj
    rcases hA with hA | ⟨b', off', e, _, hc⟩
    · rw [hA] at hj; simp at hj
    · cases e
      obtain ⟨hlt, hju⟩ := List.getElem?_eq_some_iff.1 hj
      rw [WideShapes.add_plain, hc j hlt]
      exact hj
  obtain ⟨ao, cap, e, h1, h2, hn, h3, hA⟩ := hown
  cases e
  obtain ⟨ao, cap, e, h1', h2', hn', h3', hA'⟩ := hsrc
  cases e
  refine wpList_append_grows w hgd s x t ho 5 i (.int .u8 0) 1 1 ht hi hz hsize hby rfl (by decide) (some ⟨b, off, none⟩) l.length l.length (l.map u8v) hs (fun e => by cases e) (by simp) (fun b e => by cases e; exact cells hA) ⟨b', off', none⟩ m.length c' (m.map u8v) hx (by simp) (cells hA') (u8v_one _) (by omega) (by simp only [maxLen]; omega) (by omega) ?_
  intro v' w' ho hg
  refine h v' w' ⟨?_, ?_⟩ hg
  · intro y hy
    rcases List.mem_append.1 hy with h5 | h5
    · exact h3 y h5
    · exact h3' y h5
  · rw [List.length_append, List.map_append]; exact ho
/-- zeros behind what is owned -/
theorem wpList_append_zbytes {P : Program} {w : World} {ops : Array Oper} {rest : List Oper} {o : Oper} {a : Act} {Q : Exit → Act → World → Prop} (hgd : o.guard = none) (s x : Operand) (t tn : TypeId)
    (ho : o.op = .call { callee := .builtin .append, args := #[s, x], argTypes := #[t, tn] })
    (i : TypeInfo) (ht : P.underlying t = some (.slice 5)) (kq kn : IntKind) (htn : P.underlying tn = some (.int kn)) (hi : P.info? 5 = some i) (hz : i.zero = some (.int .u8 0)) (hsize : i.size = 1) (hby : i.bytes = 1)
    (base : Nat) (v : Value) (l : List Nat) (hs : a.eval s = v) (hown : Own w base v l) (k : Nat) (hx : a.eval x = .int kq (k : Int)) (h0 : 0 < k)
    (h63 : l.length + k ≤ 140737488355328) (hbase : base ≤ w.heap.size)
    (h : ∀ v' w', Own w' base v' (l ++ List.replicate k 0) → w.grownBy w' v.ownBlock → wpList P ops Q rest (a.put o.dst v') w') : wpList P ops Q (o :: rest) a w := by
  refine wpList_append_zeros hgd s x t tn ho base 5 i (.int .u8 0) 1 1 kq kn ht htn hi hz hsize hby rfl (by decide) zero_one v l.length (l.map u8v) hs hown.2 k hx h0 (by simp only [maxLen]; omega) (by omega) hbase ?_
  intro v' w' ho hg
  refine h v' w' ⟨?_, ?_⟩ hg
  · intro y hy
    rcases List.mem_append.1 hy with h5 | h5
    · exact hown.1 y h5
    · rw [List.eq_of_mem_replicate h5]; decide
  · rw [List.length_append, List.length_replicate, List.map_append, List.map_replicate]
    rw [show (Builtin.zeroCells (Value.int .u8 0).cells k).toList = List.replicate k (u8v 0) from zeroCells_rep _ _] at ho
    exact ho
end Go.Proofs.Ytenjpldinnbcbaa
/- Rows that are owned, each in a block of its own, none in some blocks: append, change of one, what may grow beside them. Over any program. -/

namespace Go.Proofs.Ytenjpldinnbcbaa
open Go.RowKit
set_option linter.unusedVariables false
set_option linter.unusedSimpArgs false

/-- rows owned, each owned too, in blocks unlike one another and outside X -/
def OwnD (w : World) (base : Nat) (v : Value) (ls : List (List Nat)) (X : Nat → Prop) : Prop :=
  ∃ cs, w.ownsRow base 48 1 v ls.length cs ∧ (∀ i, i < ls.length → ∃ c, cs[i]? = some c ∧ Own w base c (ls.getD i []) ∧ ∀ g, c.ownBlock = some g → ¬ X g) ∧
    ∀ (i j : Nat) (c d : Value) (g : Nat), cs[i]? = some c → cs[j]? = some d → c.ownBlock = some g → d.ownBlock = some g → i = j
theorem OwnD.nil (w : World) (base : Nat) (X : Nat → Prop) : OwnD w base (.slice none 0 0) [] X := ⟨[], World.ownsRow_nil _ _ _ _, fun i hi => by simp at hi, fun i j c d g h => by simp at h⟩
theorem OwnD.toP {w : World} {base : Nat} {v : Value} {ls : List (List Nat)} {X : Nat → Prop} (h : OwnD w base v ls X) : OwnP w base v ls := by
  obtain ⟨cs, h1, h2, _⟩ := h
  exact ⟨cs, h1, fun i hi => let ⟨c, e, hc, _⟩ := h2 i hi; ⟨c, e, hc⟩⟩
theorem OwnD.parts {w : World} {base : Nat} {v : Value} {ls : List (List Nat)} {X : Nat → Prop} (h : OwnD w base v ls X) : Parts w v ls := h.toP.parts
theorem OwnD.ge {w : World} {base : Nat} {v : Value} {ls : List (List Nat)} {X : Nat → Prop} (h : OwnD w base v ls X) : ∀ g, v.ownBlock = some g → base ≤ g := h.toP.ge
theorem OwnD.up {w w1 : World} {base : Nat} {v : Value} {ls : List (List Nat)} {X : Nat → Prop} (h : OwnD w base v ls X) (hb : Below w.heap.size w w1) : OwnD w1 base v ls X := by
  obtain ⟨cs, h1, h2, h3⟩ := h
  exact ⟨cs, row_up h1 hb, fun i hi => let ⟨c, e, hc, hx⟩ := h2 i hi; ⟨c, e, hc.up hb, hx⟩, h3⟩
theorem OwnD.mono {w : World} {base base' : Nat} {v : Value} {ls : List (List Nat)} {X Y : Nat → Prop} (h : OwnD w base v ls X) (hb : base' ≤ base) (hY : ∀ g, g < w.heap.size → Y g → X g) : OwnD w base' v ls Y := by
  obtain ⟨cs, h1, h2, h3⟩ := h
  refine ⟨cs, ⟨h1.1, ?_⟩, fun i hi => ?_, h3⟩
  · rcases h1.2 with h4 | ⟨g, cap, cur, e, h5, r⟩
    · exact .inl h4
    · exact .inr ⟨g, cap, cur, e, Nat.le_trans hb h5, r⟩
  · obtain ⟨c, e, hc, hx⟩ := h2 i hi
    exact ⟨c, e, own_mono hc hb, fun g hg hy => hx g hg (hY g (hc.lt g hg) hy)⟩
/-- what grows lies in X alone: the rows stay -/
theorem OwnD.grow {w w' : World} {base base' : Nat} {v x x' : Value} {ls : List (List Nat)} {l : List Nat} (h : OwnD w base v ls (fun g => x.ownBlock = some g)) (hx : Own w base' x l) (hg : w.grownBy w' x.ownBlock) (hp : ∀ b, x'.ownBlock = some b → x.ownBlock = some b ∨ w.heap.size ≤ b) :
    OwnD w' base v ls (fun g => x'.ownBlock = some g) := by
  obtain ⟨cs, h1, h2, h3⟩ := h
  refine ⟨cs, h1.kept hg ?_, fun i hi => ?_, h3⟩
  · rcases rows_apart h1 hx with e | e
    · cases hv : v.ownBlock with
      | none => exact .inl rfl
      | some g => exact .inr (by rw [e]; exact fun e => by cases e)
    · exact .inr fun e2 => e e2.symm
  · obtain ⟨c, e, hc, hxx⟩ := h2 i hi
    refine ⟨c, e, hc.keep hg fun g hcg => hxx g hcg, fun g hcg hxg => ?_⟩
    rcases hp g hxg with h4 | h4
    · exact hxx g hcg h4
    · have := hc.lt g hcg
      omega
/-- the row at a place -/
theorem OwnD.get {w : World} {base n cap : Nat} {ao : Option Addr} {ls : List (List Nat)} {X : Nat → Prop} (h : OwnD w base (.slice ao n cap) ls X) {k : Nat} (hk : k < ls.length) :
    ∃ b off c p, ao = some ⟨b, off, none⟩ ∧ w.cell? ⟨b, off + k, none⟩ = some c ∧ Hid (ls[k]? = some p) ∧ Own w base c p ∧ (∀ w' p', Own w' base c p' → w.grownBy w' c.ownBlock → OwnD w' base (.slice ao n cap) (ls.set k p') X) ∧ c.ownBlock ≠ some b ∧ b < w.heap.size ∧ (∀ g, c.ownBlock = some g → ¬ X g) := by
  obtain ⟨cs, h1, h2, h3⟩ := h
  obtain ⟨c, hc, ho, hX⟩ := h2 k hk
  have hset : ∀ w' p', Own w' base c p' → w.grownBy w' c.ownBlock → OwnD w' base (.slice ao n cap) (ls.set k p') X := by
    intro w' p' ho' hg
    refine ⟨cs, ?_, fun i hi => ?_, h3⟩
    · rw [List.length_set]
      refine h1.kept hg ?_
      rcases rows_apart h1 ho with e | e
      · right; rw [e]
        intro e2
        rcases h1.2 with ⟨e3, h4⟩ | ⟨g, cap', cur, e3, _⟩
        · omega
        · rw [e3] at e2; cases e2
      · exact .inr fun e2 => e e2.symm
    · rw [List.length_set] at hi
      obtain ⟨d, hd, hod, hXd⟩ := h2 i hi
      by_cases hik : i = k
      · subst hik
        rw [hc] at hd
        cases hd
        refine ⟨c, hc, ?_, hXd⟩
        rw [List.getD_eq_getElem?_getD, List.getElem?_set_self hk]
        exact ho'
      · refine ⟨d, hd, ?_, hXd⟩
        rw [List.getD_eq_getElem?_getD, List.getElem?_set_ne (fun e => hik e.symm), ← List.getD_eq_getElem?_getD]
        exact hod.keep hg fun g hdg hcg => hik (h3 i k d c g hd hc hdg hcg)
  rcases h1.2 with ⟨e, h4⟩ | ⟨g, cap', cur, e, h4, hg, r1, r2, r3, r4⟩
  · omega
  · cases e
    refine ⟨g, 0, c, _, rfl, ?_, getD_get _ hk, ho, hset, ?_, lt_of_block hg, hX⟩
    · rw [Nat.zero_add, h1.cellAt k (by omega)]
      exact hc
    · rcases rows_apart h1 ho with e | e
      · rw [e]; exact fun e => by cases e
      · exact fun e2 => e e2
/-- what grows lies in X: the rows stay -/
theorem OwnD.growX {w w' : World} {base base' : Nat} {v x : Value} {ls : List (List Nat)} {l : List Nat} {X X' : Nat → Prop} (h : OwnD w base v ls X) (hx : Own w base' x l) (hg : w.grownBy w' x.ownBlock) (hX : ∀ g, x.ownBlock = some g → X g) (hX' : ∀ g, X' g → X g ∨ w.heap.size ≤ g) :
    OwnD w' base v ls X' := by
  obtain ⟨cs, h1, h2, h3⟩ := h
  refine ⟨cs, h1.kept hg ?_, fun i hi => ?_, h3⟩
  · rcases rows_apart h1 hx with e | e
    · cases hv : v.ownBlock with
      | none => exact .inl rfl
      | some g => exact .inr (by rw [e]; exact fun e => by cases e)
    · exact .inr fun e2 => e e2.symm
  · obtain ⟨c, e, hc, hxx⟩ := h2 i hi
    refine ⟨c, e, hc.keep hg fun g hcg hxg => hxx g hcg (hX g hxg), fun g hcg hxg => ?_⟩
    rcases hX' g hxg with h4 | h4
    · exact hxx g hcg h4
    · have := hc.lt g hcg
      omega
/-- append(rows, row): the row in a block that is new since w1, the rows as they were there -/
theorem wpList_append_rowD {P : Program} {w : World} {ops : Array Oper} {rest : List Oper} {o : Oper} {a : Act} {Q : Exit → Act → World → Prop} (hgd : o.guard = none) (s x : Operand) (t : TypeId)
    (ho : o.op = .call { callee := .builtin .append, args := #[s, x], argTypes := #[t, t] })
    (i : TypeInfo) (ht : P.underlying t = some (.slice 48)) (hi : P.info? 48 = some i) (hz : i.zero = some (.slice none 0 0)) (hsize : i.size = 1) (hby : i.bytes = 24)
    (base : Nat) (v : Value) (ls : List (List Nat)) (X : Nat → Prop) (hs : a.eval s = v) (w1 : World) (hB : Below w1.heap.size w1 w) (hown : OwnD w1 base v ls X) (hX : ∀ g, X g → g < w1.heap.size)
    (ad : Addr) (c : Value) (l : List Nat) (hx : a.eval x = .slice (some ad) 1 1) (hat : At w (some ad) [c]) (hc : Own w w1.heap.size c l)
    (h63 : ls.length ≤ 1048576) (hbase : base ≤ w1.heap.size)
    (h : ∀ v' w', OwnD w' base v' (ls ++ [l]) X → w.grownBy w' v.ownBlock → wpList P ops Q rest (a.put o.dst v') w') : wpList P ops Q (o :: rest) a w := by
  have hlt1 : ∀ i c', i < ls.length → Own w1 base c' (ls.getD i []) → ∀ g, c'.ownBlock = some g → g < w1.heap.size := fun i c' _ hc' g hg => hc'.lt g hg
  obtain ⟨cs, h1, h2, h3⟩ := hown
  have h2' : ∀ i, i < ls.length → ∃ c, cs[i]? = some c ∧ Own w base c (ls.getD i []) ∧ (∀ g, c.ownBlock = some g → ¬ X g) ∧ ∀ g, c.ownBlock = some g → g < w1.heap.size := by
    intro i hi
    obtain ⟨c', e, hc', hx'⟩ := h2 i hi
    exact ⟨c', e, hc'.up hB, hx', hc'.lt⟩
  have h1' := row_up h1 hB
  have hbase' : base ≤ w.heap.size := Nat.le_trans hbase hB.size
  refine wpList_append_at hgd s x t ho base 48 i (.slice none 0 0) 1 24 ht hi hz hsize hby rfl (by decide) v ls.length cs hs h1' (some ad) 1 1 [c] hx (fun e => by cases e) (Nat.le_refl _) rfl hat (fun u hu => by rw [List.mem_singleton.1 hu]; exact hc.one) (by simp only [maxLen]; omega) (by omega) hbase' ?_
  intro v' w' ho hg _
  have hcl : cs.length = ls.length := by have := h1.1; omega
  refine h v' w' ⟨cs ++ [c], by rw [List.length_append]; exact ho, ?_, ?_⟩ hg
  · intro j hj
    rw [List.length_append, List.length_singleton] at hj
    by_cases hjl : j < ls.length
    · obtain ⟨c', e, hc', hx', _⟩ := h2' j hjl
      refine ⟨c', by rw [List.getElem?_append_left (by omega)]; exact e, ?_, hx'⟩
      have e2 : (ls ++ [l]).getD j [] = ls.getD j [] := by simp [List.getD, List.getElem?_append_left hjl]
      rw [e2]
      exact hc'.keptRow h1' hg
    · have e : j = ls.length := by omega
      subst e
      refine ⟨c, by rw [List.getElem?_append_right (by omega)]; simp [hcl], ?_, fun g hg hXg => ?_⟩
      · have e2 : (ls ++ [l]).getD ls.length [] = l := by simp [List.getD]
        rw [e2]
        exact own_mono (hc.keptRow h1' hg) hbase
      · have := hX g hXg
        have := hc.ge g hg
        omega
  · intro p q c1 d1 g hp hq hcg hdg
    have key : ∀ p c1, (cs ++ [c])[p]? = some c1 → (p < ls.length ∧ cs[p]? = some c1 ∧ ∀ g, c1.ownBlock = some g → g < w1.heap.size) ∨ (p = ls.length ∧ c1 = c) := by
      intro p c1 hp
      rcases Nat.lt_or_ge p ls.length with hpl | hpl
      · rw [List.getElem?_append_left (by omega)] at hp
        obtain ⟨c', e, _, _, hl⟩ := h2' p hpl
        rw [hp] at e
        cases e
        exact .inl ⟨hpl, hp, hl⟩
      · rw [List.getElem?_append_right (by omega)] at hp
        right
        have : p - cs.length = 0 := by
          rcases Nat.eq_zero_or_pos (p - cs.length) with h | h
          · exact h
          · rw [List.getElem?_eq_none (by simp; omega)] at hp; cases hp
        rw [this] at hp
        cases hp
        exact ⟨by omega, rfl⟩
    rcases key p c1 hp with ⟨k1, k2, k3⟩ | ⟨k1, k2⟩ <;> rcases key q d1 hq with ⟨m1, m2, m3⟩ | ⟨m1, m2⟩
    · exact h3 p q c1 d1 g k2 m2 hcg hdg
    · subst m2
      have := k3 g hcg
      have := hc.ge g hdg
      omega
    · subst k2
      have := m3 g hdg
      have := hc.ge g hcg
      omega
    · omega
theorem OwnD.shape {w : World} {base : Nat} {v : Value} {ls : List (List Nat)} {X : Nat → Prop} (h : OwnD w base v ls X) : ∃ ao cap, v = .slice ao ls.length cap ∧ ls.length ≤ cap ∧ cap ≤ 9223372036854775807 := by
  obtain ⟨cs, h1, _⟩ := h
  rcases h1.2 with ⟨rfl, hn⟩ | ⟨b, cap, cur, rfl, _, _, k, k2, _⟩
  · exact ⟨none, 0, by rw [hn], by omega, by omega⟩
  · exact ⟨_, cap, rfl, k, k2⟩
/-- a row beside rows that grow -/
theorem OwnD.keepOwn {w w' : World} {base base' : Nat} {v c : Value} {ls : List (List Nat)} {l : List Nat} {X : Nat → Prop} (h : OwnD w base v ls X) (hc : Own w base' c l) (hg : w.grownBy w' v.ownBlock) : Own w' base' c l := by
  obtain ⟨cs, h1, _⟩ := h
  exact hc.keptRow h1 hg
theorem cell_grown {w w' : World} {x : Option Nat} {b o : Nat} {u : Value} (h : w.cell? ⟨b, o, none⟩ = some u) (hl : b < w.heap.size) (hg : w.grownBy w' x) (hne : x ≠ some b) : w'.cell? ⟨b, o, none⟩ = some u := by
  rw [World.cell?_of_block (hg.block b hl (fun e => hne e.symm))]; exact h
def sliceLen : Value → Nat
  | .slice _ n _ => n
  | _ => 0
/-- append([][]byte{row}, rows...) -/
theorem wpList_append_rowsD {P : Program} {w : World} {ops : Array Oper} {rest : List Oper} {o : Oper} {a : Act} {Q : Exit → Act → World → Prop} (hgd : o.guard = none) (s x : Operand) (t : TypeId)
    (ho : o.op = .call { callee := .builtin .append, args := #[s, x], argTypes := #[t, t] })
    (i : TypeInfo) (ht : P.underlying t = some (.slice 48)) (hi : P.info? 48 = some i) (hz : i.zero = some (.slice none 0 0)) (hsize : i.size = 1) (hby : i.bytes = 24)
    (base : Nat) (w1 : World) (g : Nat) (hv : Value) (l : List Nat) (hw : w = w1.alloc (.cells #[hv] 48)) (hg : g = w1.heap.size) (hs : a.eval s = .slice (some ⟨g, 0, none⟩) 1 1) (hO : Own w1 base hv l)
    (v : Value) (ls : List (List Nat)) (hx : a.eval x = v) (hown : OwnD w1 base v ls (fun g => hv.ownBlock = some g)) (h0 : 0 < ls.length)
    (h63 : ls.length ≤ 1048576) (hbase : base ≤ w1.heap.size)
    (h : ∀ v' w', OwnD w' base v' (l :: ls) (fun _ => False) → w.grownBy w' (some g) → wpList P ops Q rest (a.put o.dst v') w') : wpList P ops Q (o :: rest) a w := by
  subst hg
  have hB : Below w1.heap.size w1 w := by rw [hw]; exact belA1 (belR _)
  obtain ⟨cs, h1, h2, h3⟩ := hown.up hB
  have hO' := hO.up hB
  obtain ⟨ao, cap, rfl⟩ : ∃ ao cap, v = .slice ao ls.length cap := by
    rcases h1.2 with ⟨rfl, hn⟩ | ⟨b, cap, cur, rfl, _⟩
    · exact ⟨none, 0, by rw [hn]⟩
    · exact ⟨_, cap, rfl⟩
  have hcl : cs.length = ls.length := by have := h1.1; omega
  have hcap : ls.length ≤ cap ∧ (ao = none → cap = 0) := by
    rcases h1.2 with ⟨e, hn⟩ | ⟨b, cap', cur, e, _, _, k, _⟩
    · omega
    · cases e; exact ⟨k, fun e => by cases e⟩
  have hone : w.ownsRow base 48 1 (.slice (some ⟨w1.heap.size, 0, none⟩) 1 1) 1 [hv] := by
    rw [hw]
    exact World.ownsRow_lit (base := base) (e := 48) (size := 1) w1 #[hv] 1 hbase (by simp [maxLen]) (by simp)
  have hc1 : ∀ u ∈ cs, u.oneCell' = true := by
    intro u hu
    obtain ⟨i, hi, rfl⟩ := List.getElem_of_mem hu
    obtain ⟨c, e, hc, _⟩ := h2 i (by omega)
    rw [List.getElem?_eq_getElem hi] at e
    cases e
    exact hc.one
  refine wpList_append_at hgd s x t ho base 48 i (.slice none 0 0) 1 24 ht hi hz hsize hby rfl (by decide) _ 1 [hv] hs hone ao ls.length cap cs hx hcap.2 hcap.1 (by omega) (At.of_own h1) hc1 (by simp only [maxLen]; omega) (by omega) (Nat.le_trans hbase hB.size) ?_
  intro v' w' ho hg _
  have hap : ∀ (c : Value) (m : List Nat), Own w base c m → Own w' base c m := fun c m hc => hc.keptRow hone hg
  refine h v' w' ⟨[hv] ++ cs, by rw [List.length_cons, Nat.add_comm]; exact ho, ?_, ?_⟩ hg
  · intro j hj
    cases j with
    | zero => exact ⟨hv, rfl, hap _ _ hO', fun _ _ h => h⟩
    | succ j =>
      rw [List.length_cons] at hj
      obtain ⟨c, e, hc, hx⟩ := h2 j (by omega)
      exact ⟨c, e, hap _ _ hc, fun _ _ h => h⟩
  · intro p q c d g hp hq hcg hdg
    have key : ∀ p c, ([hv] ++ cs)[p + 1]? = some c → cs[p]? = some c ∧ ∀ g, c.ownBlock = some g → hv.ownBlock ≠ some g := by
      intro p c hp
      have hp' : cs[p]? = some c := hp
      have hlt := (List.getElem?_eq_some_iff.1 hp').1
      obtain ⟨c', e, _, hx⟩ := h2 p (by omega)
      rw [hp'] at e
      cases e
      exact ⟨hp', hx⟩
    cases p with
    | zero =>
      cases q with
      | zero => rfl
      | succ q =>
        cases hp
        exact absurd hcg ((key q d hq).2 g hdg)
    | succ p =>
      cases q with
      | zero =>
        cases hq
        exact absurd hdg ((key p c hp).2 g hcg)
      | succ q => rw [h3 p q c d g (key p c hp).1 (key q d hq).1 hcg hdg]
/-- append onto what is owned: where the row lies that comes back -/
theorem append_place {P : Program} {w : World} (base : Nat) (t ty e : TypeId) (i : TypeInfo) (z : Value) (size bytes : Nat) (ht : P.underlying t = some (.slice e)) (hi : P.info? e = some i) (hz : i.zero = some z)
    (hsize : i.size = size) (hby : i.bytes = bytes) (hzs : z.cells.size = size) (hsz : 0 < size)
    (v : Value) (n : Nat) (xs : List Value) (hown : w.ownsRow base e size v n xs)
    (a : Addr) (m c : Nat) (news : List Value) (hl : news.length = m * size) (hnews : ∀ j u, news[j]? = some u → w.cell? (a.add j) = some u) (h1 : ∀ u ∈ news, u.oneCell' = true)
    (h63 : n + m ≤ maxLen) (hbytes : (n + m) * bytes ≤ 140737488355328) {v' : Value} {w' : World}
    (hr : (Builtin.append_ #[t, t] ty #[v, .slice (some a) m c]).run P w = .ok v' w') : ∀ b, v'.ownBlock = some b → v.ownBlock = some b ∨ w.heap.size ≤ b := by
  intro b hb
  rcases hown.2 with ⟨rfl, rfl⟩ | ⟨g, cap, cur, rfl, hbg, hg, hnc, hcm, hcs, htake⟩
  · have hx : xs = [] := List.eq_nil_of_length_eq_zero (by simpa using hown.1)
    subst hx
    obtain ⟨v2, w2, hr2, h2, _⟩ := run_append_own (P := P) w w.heap.size t ty e i z size bytes ht hi hz hsize hby hzs hsz (.slice none 0 0) 0 [] (World.ownsRow_nil _ _ _ _) a m c news hl hnews h1 h63 hbytes (Nat.le_refl _)
    rw [hr] at hr2
    cases hr2
    exact .inr (h2.lt b hb).1
  · subst hsize
    subst hby
    have hsmall : n + m ≤ 9223372036854775807 := by simp only [maxLen] at h63; omega
    by_cases hroom : n + m ≤ cap
    · have hfit : n * i.size + news.length ≤ cur.size := by rw [hl, hcs, ← Nat.add_mul]; exact Nat.mul_le_mul_right _ hroom
      have hr2 := run_append_room (P := P) w t ty e i ht hi g n cap cur hg a m c news hl hnews h1 hroom hfit
      rw [hr] at hr2
      cases hr2
      exact .inl hb
    · have holds : ∀ j u, xs[j]? = some u → w.cell? ((⟨g, 0, none⟩ : Addr).add j) = some u := hown.cells (g := g) rfl
      have hr2 := run_append_grow (P := P) w t ty e i z ht hi hz ⟨g, 0, none⟩ n cap xs hown.1 holds a m c news hl hnews (by omega) (by omega) (growslice_fits (by omega) hbytes)
      rw [hr] at hr2
      cases hr2
      cases hb
      exact .inr (Nat.le_refl _)
theorem wp_append_bytes_pl {P : Program} {w : World} {o : Oper} {a : Act} {K : Act → World → Prop} {Q : Exit → Act → World → Prop} (s x : Operand) (t : TypeId)
    (ho : o.op = .call { callee := .builtin .append, args := #[s, x], argTypes := #[t, t] })
    (i : TypeInfo) (ht : P.underlying t = some (.slice 5)) (hi : P.info? 5 = some i) (hz : i.zero = some (.int .u8 0)) (hsize : i.size = 1) (hby : i.bytes = 1)
    (base : Nat) (v : Value) (l : List Nat) (hs : a.eval s = v) (hown : Own w base v l) (b off n c : Nat) (m : List Nat) (hx : a.eval x = .slice (some ⟨b, off, none⟩) n c) (hsrc : Byt w (.slice (some ⟨b, off, none⟩) n c) m)
    (h63 : l.length + m.length ≤ 1048576) (hbase : base ≤ w.heap.size)
    (h : ∀ v' w', Own w' base v' (l ++ m) → w.grownBy w' v.ownBlock → (∀ b, v'.ownBlock = some b → v.ownBlock = some b ∨ w.heap.size ≤ b) → K (a.put o.dst v') w') : o.wp P a w K Q := by
  obtain ⟨ao, cap, e, h1, h2, h0, h3, hA⟩ := hsrc
  cases e
  have hnews : ∀ j u, (m.map u8v)[j]? = some u → w.cell? ((⟨b, off, none⟩ : Addr).add j) = some u := by
    intro j u hj
    rcases hA with hA | ⟨b', off', e, _, hc⟩
    · have : m = [] := by simpa using hA
      subst this; simp at hj
    · cases e
      obtain ⟨hlt, hju⟩ := List.getElem?_eq_some_iff.1 hj
      rw [WideShapes.add_plain, hc j hlt]
      exact hj
  obtain ⟨v', w', hr, h4, h5, _⟩ := run_append_own (P := P) w base t o.type 5 i (.int .u8 0) 1 1 ht hi hz hsize hby rfl (by decide) v l.length (l.map u8v) hown.2 ⟨b, off, none⟩ m.length c (m.map u8v) (by simp) hnews (u8v_one _) (by simp only [maxLen]; omega) (by omega) hbase
  have h7 := append_place base t o.type 5 i (.int .u8 0) 1 1 ht hi hz hsize hby rfl (by decide) v l.length (l.map u8v) hown.2 ⟨b, off, none⟩ m.length c (m.map u8v) (by simp) hnews (u8v_one _) (by simp only [maxLen]; omega) (by omega) hr
  unfold Oper.wp execOp
  simp only [ho, resolve, invoke, builtin, Sem.run_bind, Sem.run_pure, Result.andThen_ok, List.map_toArray, List.map_cons, List.map_nil, hs, hx, hr]
  refine h v' w' ⟨?_, ?_⟩ h5 h7
  · intro y hy
    rcases List.mem_append.1 hy with h5 | h5
    · exact hown.1 y h5
    · exact h3 y h5
  · rw [List.length_append, List.map_append]; exact h4
theorem wpList_append_bytes_pl {P : Program} {w : World} {ops : Array Oper} {rest : List Oper} {o : Oper} {a : Act} {Q : Exit → Act → World → Prop} (hgd : o.guard = none) (s x : Operand) (t : TypeId)
    (ho : o.op = .call { callee := .builtin .append, args := #[s, x], argTypes := #[t, t] })
    (i : TypeInfo) (ht : P.underlying t = some (.slice 5)) (hi : P.info? 5 = some i) (hz : i.zero = some (.int .u8 0)) (hsize : i.size = 1) (hby : i.bytes = 1)
    (base : Nat) (v : Value) (l : List Nat) (hs : a.eval s = v) (hown : Own w base v l) (b off n c : Nat) (m : List Nat) (hx : a.eval x = .slice (some ⟨b, off, none⟩) n c) (hsrc : Byt w (.slice (some ⟨b, off, none⟩) n c) m)
    (h63 : l.length + m.length ≤ 1048576) (hbase : base ≤ w.heap.size)
    (h : ∀ v' w', Own w' base v' (l ++ m) → w.grownBy w' v.ownBlock → (∀ b, v'.ownBlock = some b → v.ownBlock = some b ∨ w.heap.size ≤ b) → wpList P ops Q rest (a.put o.dst v') w') : wpList P ops Q (o :: rest) a w :=
  wpList_plain hgd fun _ hK => wp_append_bytes_pl s x t ho i ht hi hz hsize hby base v l hs hown b off n c m hx hsrc h63 hbase (fun v' w' h1 h2 h3 => hK _ _ (h v' w' h1 h2 h3))
theorem run_append_own_zeros_pl {P : Program} (w : World) (base t tn ty e : Nat) (i : TypeInfo) (z : Value) (size bytes : Nat) (kq kn : IntKind) (ht : P.underlying t = some (.slice e)) (htn : P.underlying tn = some (.int kn)) (hi : P.info? e = some i) (hz : i.zero = some z)
    (hsize : i.size = size) (hby : i.bytes = bytes) (hzs : z.cells.size = size) (hsz : 0 < size) (h1 : ∀ u ∈ z.cells.toList, u.oneCell' = true)
    (v : Value) (n : Nat) (xs : List Value) (hown : w.ownsRow base e size v n xs) (k : Nat) (h0 : 0 < k)
    (h63 : n + k ≤ maxLen) (hbytes : (n + k) * bytes ≤ 140737488355328) (hbase : base ≤ w.heap.size) :
    ∃ v' w', (Builtin.append_ #[t, tn] ty #[v, .int kq k]).run P w = .ok v' w' ∧ w'.ownsRow base e size v' (n + k) (xs ++ (Builtin.zeroCells z.cells k).toList) ∧ w.grownBy w' v.ownBlock ∧ (∀ b, v'.ownBlock = some b → v.ownBlock = some b ∨ w.heap.size ≤ b) := by
  subst hsize
  subst hby
  have hsmall : ((n + k : Nat) : Int) ≤ 9223372036854775807 := by simp only [maxLen] at h63; omega
  have hkb : k * i.bytes ≤ (n + k) * i.bytes := Nat.mul_le_mul_right _ (by omega)
  have hzl : (Builtin.zeroCells z.cells k).toList.length = k * i.size := by rw [Array.length_toList, size_zeroCells, hzs]
  have hlen : (xs ++ (Builtin.zeroCells z.cells k).toList).length = (n + k) * i.size := by rw [List.length_append, hown.1, hzl, Nat.add_mul]
  rcases hown.2 with ⟨rfl, rfl⟩ | ⟨g, cap, cur, rfl, hbg, hg, hnc, hcm, hcs, htake⟩
  · have hx : xs = [] := List.eq_nil_of_length_eq_zero (by simpa using hown.1)
    subst hx
    have hr := Lib.run_append_nil_zeros (P := P) w t tn ty e i z kq kn ht htn hi hz k h0 hsz (by omega) (by omega)
    have hge := grownCap_ge w k 0 e
    have hcm := grownCap_le_maxLen w k 0 e (by omega)
    refine ⟨_, _, hr, ⟨by simpa using hlen, .inr ⟨w.heap.size, _, _, by rw [Nat.zero_add], hbase, heap_alloc_new w.drew _, by omega, hcm, ?_, ?_⟩⟩, ⟨rfl, rfl, rfl, by simp, fun j hj _ => Below.heap_alloc w.drew _ j hj⟩, fun b hb => .inr (by cases hb; exact Nat.le_refl _)⟩
    · rw [Array.size_append, size_zeroCells, size_zeroCells, hzs, ← Nat.add_mul]; congr 1; omega
    · rw [Nat.zero_add, List.nil_append, Array.toList_append, ← hzl]
      exact List.take_left
  · by_cases hroom : n + k ≤ cap
    · have hfit : n * i.size + k * i.size ≤ cur.size := by rw [hcs, ← Nat.add_mul]; exact Nat.mul_le_mul_right _ hroom
      have hr := run_append_room_zeros (P := P) w t tn ty e i z kq kn ht htn hi hz hzs h1 g n cap cur hg k h0 hsz hroom hfit hsmall (by omega)
      refine ⟨_, _, hr, ⟨hlen, .inr ⟨g, cap, _, rfl, hbg, setRow_heap w g cur _ e _ hg, hroom, hcm, ?_, ?_⟩⟩, ⟨rfl, rfl, rfl, by simp, fun k _ hk => setRow_other w g k _ (fun e => hk (by simp [Value.ownBlock, e]))⟩, fun b hb => .inl hb⟩
      · simp only [List.size_toArray, List.length_append, List.length_take, List.length_drop, Array.length_toList, hzl]
        simp only [Array.length_toList] at hzl
        omega
      · rw [htake, ← hlen]
        exact List.take_left
    · have holds : ∀ j u, xs[j]? = some u → w.cell? ((⟨g, 0, none⟩ : Addr).add j) = some u := hown.cells (g := g) rfl
      have hf := run_firstCells_some (P := P) w.drew i.size n ⟨g, 0, none⟩ n cap xs hown.1 (fun j u h => by simpa using holds j u h)
      have hr := Lib.run_append_grow_zeros (P := P) w t tn ty e i z kq kn ht htn hi hz (some ⟨g, 0, none⟩) n cap xs hf k h0 hsz (by omega) hsmall (by omega) (growslice_fits (by omega) hbytes)
      have hge := grownCap_ge w (n + k) cap e
      have hcm' := grownCap_le_maxLen w (n + k) cap e h63
      refine ⟨_, _, hr, ⟨hlen, .inr ⟨w.heap.size, _, _, rfl, hbase, heap_alloc_new w.drew _, hge, hcm', ?_, ?_⟩⟩, ⟨rfl, rfl, rfl, by simp, fun j hj _ => Below.heap_alloc w.drew _ j hj⟩, fun b hb => .inr (by cases hb; exact Nat.le_refl _)⟩
      · simp only [Array.size_append, List.size_toArray, size_zeroCells, hzs, hown.1, ← Nat.add_mul]; congr 1; omega
      · rw [Array.toList_append, Array.toList_append, ← hlen]
        exact List.take_left
theorem wpList_append_zbytes_pl {P : Program} {w : World} {ops : Array Oper} {rest : List Oper} {o : Oper} {a : Act} {Q : Exit → Act → World → Prop} (hgd : o.guard = none) (s x : Operand) (t tn : TypeId)
    (ho : o.op = .call { callee := .builtin .append, args := #[s, x], argTypes := #[t, tn] })
    (i : TypeInfo) (ht : P.underlying t = some (.slice 5)) (kq kn : IntKind) (htn : P.underlying tn = some (.int kn)) (hi : P.info? 5 = some i) (hz : i.zero = some (.int .u8 0)) (hsize : i.size = 1) (hby : i.bytes = 1)
    (base : Nat) (v : Value) (l : List Nat) (hs : a.eval s = v) (hown : Own w base v l) (k : Nat) (hx : a.eval x = .int kq (k : Int)) (h0 : 0 < k)
    (h63 : l.length + k ≤ 140737488355328) (hbase : base ≤ w.heap.size)
    (h : ∀ v' w', Own w' base v' (l ++ List.replicate k 0) → w.grownBy w' v.ownBlock → (∀ b, v'.ownBlock = some b → v.ownBlock = some b ∨ w.heap.size ≤ b) → wpList P ops Q rest (a.put o.dst v') w') : wpList P ops Q (o :: rest) a w := by
  obtain ⟨v', w', hr, ho, hg, hp⟩ := run_append_own_zeros_pl (P := P) w base t tn o.type 5 i (.int .u8 0) 1 1 kq kn ht htn hi hz hsize hby rfl (by decide) zero_one v l.length (l.map u8v) hown.2 k h0 (by simp only [maxLen]; omega) (by omega) hbase
  refine Lib.wpList_append_run w hgd s x t tn ‹_› v (.int kq k) hs hx v' w' hr (h v' w' ⟨?_, ?_⟩ hg hp)
  · intro y hy
    rcases List.mem_append.1 hy with h5 | h5
    · exact hown.1 y h5
    · rw [List.eq_of_mem_replicate h5]; decide
  · rw [List.length_append, List.length_replicate, List.map_append, List.map_replicate]
    rw [show (Builtin.zeroCells (Value.int .u8 0).cells k).toList = List.replicate k (u8v 0) from zeroCells_rep _ _] at ho
    exact ho
end Go.Proofs.Ytenjpldinnbcbaa
