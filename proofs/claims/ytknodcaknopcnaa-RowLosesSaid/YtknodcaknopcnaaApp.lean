/- Bytes written out are owned; append of bytes as one operation of a region. Over any program. -/
import Derived.Test.YtknodcaknopcnaaMore
import Derived.Laws.OwnMore
import Derived.ArgAppend
namespace Go.Proofs.Ytknodcaknopcnaa
open Go.RowKit
set_option linter.unusedVariables false
set_option linter.unusedSimpArgs false

theorem Own.lit (w : World) (cs : Array Value) (l : List Nat) {n g base : Nat} (hg : g = w.heap.size) (hn : n = cs.size) (hl : cs.toList = l.map u8v) (h8 : ∀ x ∈ l, x < 256) (hm : l.length ≤ 1048576) (hb : base ≤ w.heap.size) :
    Own (w.alloc (.cells cs 5)) base (.slice (some ⟨g, 0, none⟩) n n) l := by
  subst hn
  subst hg
  have hs : cs.size = l.length := by have := congrArg List.length hl; simpa using this
  refine ⟨h8, ?_⟩
  have h := World.ownsRow_lit (base := base) (e := 5) (size := 1) w cs cs.size hb (by rw [hs]; simp [maxLen]; omega) (by simp)
  rw [hl] at h
  rw [← hs]
  exact h
theorem wp_append_bytes {P : Program} {w : World} {o : Oper} {a : Act} {K : Act → World → Prop} {Q : Exit → Act → World → Prop} (s x : Operand) (t : TypeId)
    (ho : o.op = .call { callee := .builtin .append, args := #[s, x], argTypes := #[t, t] })
    (i : TypeInfo) (ht : P.underlying t = some (.slice 5)) (hi : P.info? 5 = some i) (hz : i.zero = some (.int .u8 0)) (hsize : i.size = 1) (hby : i.bytes = 1)
    (base : Nat) (v : Value) (l : List Nat) (hs : a.eval s = v) (hown : Own w base v l) (b off n c : Nat) (m : List Nat) (hx : a.eval x = .slice (some ⟨b, off, none⟩) n c) (hsrc : Byt w (.slice (some ⟨b, off, none⟩) n c) m)
    (h63 : l.length + m.length ≤ 1048576) (hbase : base ≤ w.heap.size)
    (h : ∀ v' w', Own w' base v' (l ++ m) → w.grownBy w' v.ownBlock → K (a.put o.dst v') w') : o.wp P a w K Q := by
  obtain ⟨ao, cap, e, h1, h2, h0, h3, hA⟩ := hsrc
  cases e
  obtain ⟨v', w', hr, h4, h5, _⟩ := run_append_own (P := P) w base t o.type 5 i (.int .u8 0) 1 1 ht hi hz hsize hby rfl (by decide) v l.length (l.map u8v) hown.2 ⟨b, off, none⟩ m.length c (m.map u8v) (by simp) (by
    intro j u hj
    rcases hA with hA | ⟨b', off', e, _, hc⟩
    · have : m = [] := by simpa using hA
      subst this; simp at hj
    · cases e
      obtain ⟨hlt, hju⟩ := List.getElem?_eq_some_iff.1 hj
      rw [WideShapes.add_plain, hc j hlt]
      exact hj) (u8v_one _) (by simp only [maxLen]; omega) (by omega) hbase
  unfold Oper.wp execOp
  simp only [ho, resolve, invoke, builtin, Sem.run_bind, Sem.run_pure, Result.andThen_ok, List.map_toArray, List.map_cons, List.map_nil, hs, hx, hr]
  refine h v' w' ⟨?_, ?_⟩ h5
  · intro y hy
    rcases List.mem_append.1 hy with h5 | h5
    · exact hown.1 y h5
    · exact h3 y h5
  · rw [List.length_append, List.map_append]; exact h4
/-- append onto bytes whose row is full: always new memory -/
theorem wpList_append_full {P : Program} {w : World} {ops : Array Oper} {rest : List Oper} {o : Oper} {a : Act} {Q : Exit → Act → World → Prop} (hgd : o.guard = none) (s x : Operand) (t : TypeId)
    (ho : o.op = .call { callee := .builtin .append, args := #[s, x], argTypes := #[t, t] })
    (i : TypeInfo) (ht : P.underlying t = some (.slice 5)) (hi : P.info? 5 = some i) (hz : i.zero = some (.int .u8 0)) (hsize : i.size = 1) (hby : i.bytes = 1)
    (b off n : Nat) (l : List Nat) (hs : a.eval s = .slice (some ⟨b, off, none⟩) n n) (hown : Byt w (.slice (some ⟨b, off, none⟩) n n) l) (b' off' n' c' : Nat) (m : List Nat) (hx : a.eval x = .slice (some ⟨b', off', none⟩) n' c') (hsrc : Byt w (.slice (some ⟨b', off', none⟩) n' c') m) (h0 : 0 < m.length)
    (h63 : l.length + m.length ≤ 1048576)
    (h : ∀ v' w', Own w' w.heap.size v' (l ++ m) → w.grownBy w' none → wpList P ops Q rest (a.put o.dst v') w') : wpList P ops Q (o :: rest) a w := by
  have cells : ∀ {bb oo : Nat} {l : List Nat}, At w (some ⟨bb, oo, none⟩) (l.map u8v) → ∀ j u, (l.map u8v)[j]? = some u → w.cell? ((⟨bb, oo, none⟩ : Addr).add j) = some u := by
    intro bb oo l hA j u hj
    rcases hA with hA | ⟨b', off', e, _, hc⟩
    · rw [hA] at hj; simp at hj
    · cases e
      obtain ⟨hlt, hju⟩ := List.getElem?_eq_some_iff.1 hj
      rw [WideShapes.add_plain, hc j hlt]
      exact hj
  obtain ⟨ao, cap, e, h1, h2, hn, h3, hA⟩ := hown
  cases e
  obtain ⟨ao, cap, e, h1', h2', hn', h3', hA'⟩ := hsrc
  cases e
  refine wpList_append_grows w hgd s x t ho 5 i (.int .u8 0) 1 1 ht hi hz hsize hby rfl (by decide) (some ⟨b, off, none⟩) l.length l.length (l.map u8v) hs (fun e => by cases e) (by simp) (fun b e => by cases e; exact cells hA) ⟨b', off', none⟩ m.length c' (m.map u8v) hx (by simp) (cells hA') (u8v_one _) (by omega) (by simp only [maxLen]; omega) (by omega) ?_
  intro v' w' ho hg
  refine h v' w' ⟨?_, ?_⟩ hg
  · intro y hy
    rcases List.mem_append.1 hy with h5 | h5
    · exact h3 y h5
    · exact h3' y h5
  · rw [List.length_append, List.map_append]; exact ho
/-- zeros behind what is owned -/
theorem wpList_append_zbytes {P : Program} {w : World} {ops : Array Oper} {rest : List Oper} {o : Oper} {a : Act} {Q : Exit → Act → World → Prop} (hgd : o.guard = none) (s x : Operand) (t tn : TypeId)
    (ho : o.op = .call { callee := .builtin .append, args := #[s, x], argTypes := #[t, tn] })
    (i : TypeInfo) (ht : P.underlying t = some (.slice 5)) (kq kn : IntKind) (htn : P.underlying tn = some (.int kn)) (hi : P.info? 5 = some i) (hz : i.zero = some (.int .u8 0)) (hsize : i.size = 1) (hby : i.bytes = 1)
    (base : Nat) (v : Value) (l : List Nat) (hs : a.eval s = v) (hown : Own w base v l) (k : Nat) (hx : a.eval x = .int kq (k : Int)) (h0 : 0 < k)
    (h63 : l.length + k ≤ 140737488355328) (hbase : base ≤ w.heap.size)
    (h : ∀ v' w', Own w' base v' (l ++ List.replicate k 0) → w.grownBy w' v.ownBlock → wpList P ops Q rest (a.put o.dst v') w') : wpList P ops Q (o :: rest) a w := by
  refine wpList_append_zeros hgd s x t tn ho base 5 i (.int .u8 0) 1 1 kq kn ht htn hi hz hsize hby rfl (by decide) zero_one v l.length (l.map u8v) hs hown.2 k hx h0 (by simp only [maxLen]; omega) (by omega) hbase ?_
  intro v' w' ho hg
  refine h v' w' ⟨?_, ?_⟩ hg
  · intro y hy
    rcases List.mem_append.1 hy with h5 | h5
    · exact hown.1 y h5
    · rw [List.eq_of_mem_replicate h5]; decide
  · rw [List.length_append, List.length_replicate, List.map_append, List.map_replicate]
    rw [show (Builtin.zeroCells (Value.int .u8 0).cells k).toList = List.replicate k (u8v 0) from zeroCells_rep _ _] at ho
    exact ho
end Go.Proofs.Ytknodcaknopcnaa
