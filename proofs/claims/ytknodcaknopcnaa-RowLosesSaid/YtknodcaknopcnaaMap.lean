/- Maps with whole numbers as keys that the call made: what a look-up, a store, len do. Over any program. -/
import Derived.WalkKit
import Derived.KernelRfl
import Derived.Carry
import Derived.MapKept
import Derived.Maps.OwnOps
import Derived.Maps.OwnSet
namespace Go.Proofs.Ytknodcaknopcnaa
open Go.RowKit
set_option linter.unusedVariables false
set_option linter.unusedSimpArgs false

/-- the first entry's value at x -/
def getM : List (Int × Value) → Int → Option Value
  | [], _ => none
  | p :: es, x => if p.1 = x then some p.2 else getM es x
/-- behind a store -/
def updM : List (Int × Value) → Int → Value → List (Int × Value)
  | [], x, v => [(x, v)]
  | p :: es, x, v => if p.1 = x then (x, v) :: es else p :: updM es x v
theorem getM_upd (es : List (Int × Value)) (x : Int) (v : Value) (y : Int) : getM (updM es x v) y = if x = y then some v else getM es y := by
  induction es with
  | nil => simp [getM, updM]
  | cons p es ih =>
    unfold updM
    by_cases h : p.1 = x
    · rw [if_pos h]; simp only [getM]; by_cases hy : x = y
      · simp [hy]
      · have : p.1 ≠ y := fun e => hy (h.symm.trans e)
        simp [hy, this]
    · rw [if_neg h]; simp only [getM, ih]; by_cases hp : p.1 = y
      · have : x ≠ y := fun e => h (hp.trans e.symm)
        simp [hp, this]
      · simp [hp]
theorem length_upd (es : List (Int × Value)) (x : Int) (v : Value) : (updM es x v).length = if getM es x = none then es.length + 1 else es.length := by
  induction es with
  | nil => simp [getM, updM]
  | cons p es ih =>
    unfold updM getM
    by_cases h : p.1 = x
    · simp [h]
    · simp only [if_neg h, List.length_cons, ih]; split <;> rfl
/-- block b of w is a map that holds es -/
def MapI (k : IntKind) (w : World) (b : Nat) (es : List (Int × Value)) : Prop :=
  ∃ arr clock, w.heap[b]? = some (.map arr clock) ∧ arr.toList.map (fun e => (e.key, e.val)) = es.map fun p => (.int k p.1, p.2)
theorem MapI.made (k : IntKind) (w : World) : MapI k (w.alloc (.map #[] 0)) w.heap.size [] := ⟨#[], 0, (MapKept.heap_alloc w _).1, rfl⟩
theorem MapI.same {k : IntKind} {w w' : World} {b : Nat} {es : List (Int × Value)} (h : MapI k w b es) (hw : w'.heap[b]? = w.heap[b]?) : MapI k w' b es := by
  obtain ⟨arr, clock, hb, he⟩ := h
  exact ⟨arr, clock, hw.trans hb, he⟩
theorem MapI.lt {k : IntKind} {w : World} {b : Nat} {es : List (Int × Value)} (h : MapI k w b es) : b < w.heap.size := by
  obtain ⟨arr, clock, hb, he⟩ := h
  exact (Array.getElem?_eq_some_iff.1 hb).1
theorem findNow_int (k : IntKind) (x : Int) : ∀ (l : List MapEntry) (es : List (Int × Value)) (i : Nat), l.map (fun e => (e.key, e.val)) = es.map (fun p => (.int k p.1, p.2)) →
    (Instr.findNow (.int k) (.int k x) l i = some none ∧ getM es x = none) ∨ ∃ j v, Instr.findNow (.int k) (.int k x) l i = some (some (i + j, v)) ∧ getM es x = some v ∧ (l[j]?).map (·.key) = some (.int k x) ∧
      ∀ u, (l.modify j fun e => { e with key := .int k x, val := u }).map (fun e => (e.key, e.val)) = (updM es x u).map (fun p => (.int k p.1, p.2))
  | [], es, i, h => by
    have : es = [] := by cases es <;> simp_all
    subst this
    exact .inl ⟨rfl, rfl⟩
  | e :: l, [], i, h => by simp at h
  | e :: l, p :: es, i, h => by
    simp only [List.map_cons, List.cons.injEq, Prod.mk.injEq] at h
    obtain ⟨⟨hk, hv⟩, hr⟩ := h
    by_cases hx : p.1 = x
    · refine .inr ⟨0, e.val, ?_, ?_, ?_, fun u => ?_⟩
      · have : (x == p.1) = true := by simp [hx]
        simp [Instr.findNow, Instr.sameNow, hk, this]
      · simp [getM, hx, hv]
      · simp [hk, hx]
      · simp [updM, hx, hr, hv]
    · have hne : (x == p.1) = false := by simp [Ne.symm hx]
      rcases findNow_int k x l es (i + 1) hr with ⟨h1, h2⟩ | ⟨j, v, h1, h2, h3, h4⟩
      · exact .inl ⟨by simp [Instr.findNow, Instr.sameNow, hk, hne, h1], by simp [getM, hx, h2]⟩
      · refine .inr ⟨j + 1, v, ?_, by simp [getM, hx, h2], by simpa using h3, fun u => ?_⟩
        · simp only [Instr.findNow, Instr.sameNow, hk, hne, if_true, h1]
          simp; omega
        · simp [updM, hx, h4 u, hk, hv]
section
variable {P : Program} {k : IntKind} {w : World} {b : Nat} {es : List (Int × Value)} {t kt e : TypeId}
theorem MapI.look (h : MapI k w b es) (ht : P.underlying t = some (.map kt e)) (hk : P.underlying kt = some (.int k)) {z : Value} (hz : (zeroValue e).run P w = .ok z w) (x : Int) :
    (Instr.lookup t (.map (some b)) (.int k x) false).run P w = .ok ((getM es x).getD z) w := by
  obtain ⟨arr, clock, hb, he⟩ := h
  have hck : (Instr.checkKey arr.isEmpty 10000 kt (.int k x)).run P w = .ok () w := MapKept.run_checkKey hk (by simp [MapKept.IsKey]) _ _
  rcases findNow_int k x arr.toList es 0 he with ⟨h1, h2⟩ | ⟨j, v, h1, h2, _, _⟩
  · have hf := MapKept.run_findKey (w := w) hk h1
    simp [Instr.lookup, run_underlying ht, MapKept.run_getObj_map hb, hck, hf, hz, Result.andThen, h2]
  · have hf := MapKept.run_findKey (w := w) hk h1
    simp [Instr.lookup, run_underlying ht, MapKept.run_getObj_map hb, hck, hf, Result.andThen, h2]
theorem MapI.look_ok (h : MapI k w b es) (ht : P.underlying t = some (.map kt e)) (hk : P.underlying kt = some (.int k)) {z : Value} (hz : (zeroValue e).run P w = .ok z w) (x : Int) :
    (Instr.lookup t (.map (some b)) (.int k x) true).run P w = .ok (.tuple #[(getM es x).getD z, .bool (getM es x).isSome]) w := by
  obtain ⟨arr, clock, hb, he⟩ := h
  have hck : (Instr.checkKey arr.isEmpty 10000 kt (.int k x)).run P w = .ok () w := MapKept.run_checkKey hk (by simp [MapKept.IsKey]) _ _
  rcases findNow_int k x arr.toList es 0 he with ⟨h1, h2⟩ | ⟨j, v, h1, h2, _, _⟩
  · have hf := MapKept.run_findKey (w := w) hk h1
    simp [Instr.lookup, run_underlying ht, MapKept.run_getObj_map hb, hck, hf, hz, Result.andThen, h2]
  · have hf := MapKept.run_findKey (w := w) hk h1
    simp [Instr.lookup, run_underlying ht, MapKept.run_getObj_map hb, hck, hf, Result.andThen, h2]
theorem MapI.len (h : MapI k w b es) (ht : P.underlying t = some (.map kt e)) (ty : TypeId) : (Builtin.len_ #[t] ty #[.map (some b)]).run P w = .ok (.int .i64 es.length) w := by
  obtain ⟨arr, clock, hb, he⟩ := h
  have e1 : arr.size = es.length := by have := congrArg List.length he; simpa using this
  simp [Builtin.len_, run_underlying ht, MapKept.run_getObj_map hb, goInt, Result.andThen, e1]
theorem MapI.store (h : MapI k w b es) (ht : P.underlying t = some (.map kt e)) (hk : P.underlying kt = some (.int k)) (x : Int) (u : Value) :
    ∃ w', (Instr.mapUpdate t (.map (some b)) (.int k x) u).run P w = .ok () w' ∧ MapI k w' b (updM es x u) ∧ w.grownBy w' (some b) ∧ w'.heap.size = w.heap.size := by
  obtain ⟨arr, clock, hb, he⟩ := h
  have hck : (Instr.checkKey false 10000 kt (.int k x)).run P w = .ok () w := MapKept.run_checkKey hk (by simp [MapKept.IsKey]) _ _
  have out : ∀ o, w.grownBy { w with heap := w.heap.setIfInBounds b o } (some b) := fun o =>
    ⟨rfl, rfl, rfl, by simp, fun i _ hi => (MapKept.heap_set hb).2 i (fun e => hi (by rw [e]))⟩
  rcases findNow_int k x arr.toList es 0 he with ⟨h1, h2⟩ | ⟨j, v, h1, h2, h3, h4⟩
  · have hf := MapKept.run_findKey (w := w) hk h1
    refine ⟨{ w with heap := w.heap.setIfInBounds b (.map (arr.push { key := .int k x, val := u, born := clock }) (clock + 1)) }, ?_, ⟨_, _, (MapKept.heap_set hb).1, ?_⟩, out _, by simp⟩
    · simp [Instr.mapUpdate, run_underlying ht, MapKept.run_getObj_map hb, hck, hf, MapKept.run_setObj_map _ hb, Result.andThen]
    · have key : ∀ es : List (Int × Value), getM es x = none → updM es x u = es ++ [(x, u)] := by
        intro es
        induction es with
        | nil => intro _; rfl
        | cons p es ih =>
          intro hh
          unfold getM at hh
          by_cases hx : p.1 = x
          · simp [hx] at hh
          · rw [if_neg hx] at hh; simp [updM, hx, ih hh]
      rw [key es h2]
      simp [he]
  · have hf := MapKept.run_findKey (w := w) hk h1
    have hkey : ((arr[0 + j]?).map (·.key)).getD (.int k x) = .int k x := by
      rw [Nat.zero_add]
      have h3' : (arr[j]?).map (·.key) = some (.int k x) := by simpa using h3
      rw [h3']; rfl
    have hstay : (Instr.keyThatStays (.int k x) (.int k x)).run P w = .ok (.int k x) w := by
      unfold Instr.keyThatStays
      have : Instr.sameBits 10000 (.int k x) (.int k x) = true := by
        unfold Instr.sameBits
        simp
      rw [this]
      rfl
    refine ⟨{ w with heap := w.heap.setIfInBounds b (.map (arr.modify (0 + j) fun e => { e with key := .int k x, val := u }) clock) }, ?_, ⟨_, _, (MapKept.heap_set hb).1, ?_⟩, out _, by simp⟩
    · simp only [Instr.mapUpdate, Sem.run_bind, run_underlying ht, Result.andThen, MapKept.run_getObj_map hb, hck, hf, hkey, hstay, MapKept.run_setObj_map _ hb]
    · rw [Nat.zero_add, Array.toList_modify]; exact h4 u
end
theorem wpList_lookI {P : Program} {w : World} {ops : Array Oper} {rest : List Oper} {o : Oper} {a : Act} {Q : Exit → Act → World → Prop}
    (hg : o.guard = none) (m x : Operand) (t : TypeId) (hop : o.op = Op.lookup t m x false) (kt e : TypeId) (k : IntKind) (ht : P.underlying t = some (.map kt e)) (hk : P.underlying kt = some (.int k))
    (z : Value) (hz : (zeroValue e).run P w = .ok z w) (b : Nat) (es : List (Int × Value)) (n : Int) (hm : a.eval m = .map (some b)) (hx : a.eval x = .int k n) (h : MapI k w b es)
    (hK : wpList P ops Q rest (a.put o.dst ((getM es n).getD z)) w) : wpList P ops Q (o :: rest) a w := by
  refine wpList_plain hg fun K' hK' => ?_
  unfold Oper.wp
  simp [execOp, hop, hm, hx, h.look ht hk hz n, Result.andThen]
  exact hK' _ _ hK
theorem wpList_lookI_ok {P : Program} {w : World} {ops : Array Oper} {rest : List Oper} {o : Oper} {a : Act} {Q : Exit → Act → World → Prop}
    (hg : o.guard = none) (m x : Operand) (t : TypeId) (hop : o.op = Op.lookup t m x true) (kt e : TypeId) (k : IntKind) (ht : P.underlying t = some (.map kt e)) (hk : P.underlying kt = some (.int k))
    (z : Value) (hz : (zeroValue e).run P w = .ok z w) (b : Nat) (es : List (Int × Value)) (n : Int) (hm : a.eval m = .map (some b)) (hx : a.eval x = .int k n) (h : MapI k w b es)
    (hK : wpList P ops Q rest (a.put o.dst (.tuple #[(getM es n).getD z, .bool (getM es n).isSome])) w) : wpList P ops Q (o :: rest) a w := by
  refine wpList_plain hg fun K' hK' => ?_
  unfold Oper.wp
  simp [execOp, hop, hm, hx, h.look_ok ht hk hz n, Result.andThen]
  exact hK' _ _ hK
theorem wpList_storeI {P : Program} {w : World} {ops : Array Oper} {rest : List Oper} {o : Oper} {a : Act} {Q : Exit → Act → World → Prop}
    (hg : o.guard = none) (m x v : Operand) (t : TypeId) (hop : o.op = Op.mapUpdate t m x v) (kt e : TypeId) (k : IntKind) (ht : P.underlying t = some (.map kt e)) (hk : P.underlying kt = some (.int k))
    (b : Nat) (es : List (Int × Value)) (n : Int) (u : Value) (hm : a.eval m = .map (some b)) (hx : a.eval x = .int k n) (hv : a.eval v = u) (h : MapI k w b es)
    (hK : ∀ w', MapI k w' b (updM es n u) → w.grownBy w' (some b) → w'.heap.size = w.heap.size → wpList P ops Q rest (a.put o.dst undef) w') : wpList P ops Q (o :: rest) a w := by
  refine wpList_plain hg fun K' hK' => ?_
  obtain ⟨w', hrun, r1, r2, r3⟩ := h.store ht hk n u
  unfold Oper.wp
  simp [execOp, hop, hm, hx, hv, hrun, Result.andThen]
  exact hK' _ _ (hK w' r1 r2 r3)
theorem wpList_lenI {P : Program} {w : World} {ops : Array Oper} {rest : List Oper} {o : Oper} {a : Act} {Q : Exit → Act → World → Prop}
    (hg : o.guard = none) (m : Operand) (t : TypeId) (hop : o.op = Op.call { callee := Callee.builtin Builtin.len, args := #[m], argTypes := #[t] })
    (kt e : TypeId) (k : IntKind) (ht : P.underlying t = some (.map kt e)) (b : Nat) (es : List (Int × Value)) (hm : a.eval m = .map (some b)) (h : MapI k w b es)
    (hK : wpList P ops Q rest (a.put o.dst (.int .i64 es.length)) w) : wpList P ops Q (o :: rest) a w := by
  refine wpList_plain hg fun K' hK' => ?_
  unfold Oper.wp
  simp [execOp, hop, resolve, invoke, builtin, hm, h.len ht o.type, Result.andThen]
  exact hK' _ _ hK
end Go.Proofs.Ytknodcaknopcnaa
