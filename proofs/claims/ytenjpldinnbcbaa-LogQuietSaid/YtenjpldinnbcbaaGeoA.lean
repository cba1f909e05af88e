/- Merged: Geo, Map, Idx, Geom, Geom2, Geq, GeomR. -/
import Derived.WalkKit
import Derived.KernelRfl
import Derived.Carry
import Derived.MapKept
import Derived.Maps.OwnOps
import Derived.Maps.OwnSet
import Derived.Test.YtenjpldinnbcbaaKeep
import Derived.Test.YtenjpldinnbcbaaOpen
import Derived.Deep.RegionHeld3
import Derived.Test.YtenjpldinnbcbaaMoreF
import Derived.Deep.DrawnRows
import Derived.Laws.StructEq
/- Geometries over plain numbers: which may be, their widths, which may follow which. No Go, no memory, no condition. -/
namespace Go.Proofs.Ytenjpldinnbcbaa

structure Geo where
  l : Int
  d : Int
  c : Int
/-- may a geometry be? -/
def Geo.ok (g : Geo) : Bool := decide ((g.l = 5 ∧ 3 ≤ g.d ∨ g.l = 6 ∧ 4 ≤ g.d) ∧ g.d ≤ 8 ∧ (g.c = 1 ∨ g.c = 2 ∨ g.c = 4))
def Geo.budget (g : Geo) : Int := if g.ok then g.l - 4 else 0
def Geo.width (g : Geo) : Int := if g.ok then g.d - (g.l - 4) else 0
def Geo.same (a b : Geo) : Bool := decide (a.l = b.l ∧ a.d = b.d ∧ a.c = b.c)
def Geo.can (a b : Geo) : Bool := a.ok && b.ok && !a.same b && decide (a.d ≤ b.d ∧ a.l ≤ b.l ∧ a.width ≤ b.width)
/-- what the program answers: 0, or 1 -/
def Geo.err (g : Geo) : Int := if g.ok then 0 else 1
theorem Geo.err_yes {g : Geo} (h : g.ok = true) : g.err = 0 := by unfold Geo.err; rw [if_pos h]
theorem Geo.err_no {g : Geo} (h : g.ok = false) : g.err = 1 := by unfold Geo.err; rw [if_neg (by rw [h]; decide)]
def Geo.zero : Geo := ⟨0, 0, 0⟩
theorem Geo.ok_iff (g : Geo) : g.ok = true ↔ (g.l = 5 ∧ 3 ≤ g.d ∨ g.l = 6 ∧ 4 ≤ g.d) ∧ g.d ≤ 8 ∧ (g.c = 1 ∨ g.c = 2 ∨ g.c = 4) := by unfold Geo.ok; exact decide_eq_true_iff
theorem Geo.eq_iff (a b : Geo) : a = b ↔ a.l = b.l ∧ a.d = b.d ∧ a.c = b.c := by
  cases a; cases b; simp
theorem Geo.same_iff (a b : Geo) : a.same b = true ↔ a = b := by rw [Geo.eq_iff]; unfold Geo.same; exact decide_eq_true_iff
/-- whole numbers of the machine -/
def i64b (x : Int) : Prop := -9223372036854775808 ≤ x ∧ x ≤ 9223372036854775807
structure Geo.In (g : Geo) : Prop where
  l : i64b g.l
  d : i64b g.d
  c : i64b g.c
theorem Geo.ok_in {g : Geo} (h : g.ok = true) : g.In := by
  obtain ⟨h1, h2, h3⟩ := (Geo.ok_iff g).1 h
  refine ⟨⟨?_, ?_⟩, ⟨?_, ?_⟩, ⟨?_, ?_⟩⟩ <;> omega
end Go.Proofs.Ytenjpldinnbcbaa
/- Maps with whole numbers as keys that the call made: what a look-up, a store, len do. Over any program. -/

namespace Go.Proofs.Ytenjpldinnbcbaa
open Go.RowKit
set_option linter.unusedVariables false
set_option linter.unusedSimpArgs false

/-- the first entry's value at x -/
def getM : List (Int × Value) → Int → Option Value
  | [], _ => none
  | p :: es, x => if p.1 = x then some p.2 else getM es x
/-- behind a store -/
def updM : List (Int × Value) → Int → Value → List (Int × Value)
  | [], x, v => [(x, v)]
  | p :: es, x, v => if p.1 = x then (x, v) :: es else p :: updM es x v
theorem getM_upd (es : List (Int × Value)) (x : Int) (v : Value) (y : Int) : getM (updM es x v) y = if x = y then some v else getM es y := by
  induction es with
  | nil => simp [getM, updM]
  | cons p es ih =>
    unfold updM
    by_cases h : p.1 = x
    · rw [if_pos h]; simp only [getM]; by_cases hy : x = y
      · simp [hy]
      · have : p.1 ≠ y := fun e => hy (h.symm.trans e)
        simp [hy, this]
    · rw [if_neg h]; simp only [getM, ih]; by_cases hp : p.1 = y
      · have : x ≠ y := fun e => h (hp.trans e.symm)
        simp [hp, this]
      · simp [hp]
theorem length_upd (es : List (Int × Value)) (x : Int) (v : Value) : (updM es x v).length = if getM es x = none then es.length + 1 else es.length := by
  induction es with
  | nil => simp [getM, updM]
  | cons p es ih =>
    unfold updM getM
    by_cases h : p.1 = x
    · simp [h]
    · simp only [if_neg h, List.length_cons, ih]; split <;> rfl
/-- block b of w is a map that holds es -/
def MapI (k : IntKind) (w : World) (b : Nat) (es : List (Int × Value)) : Prop :=
  ∃ arr clock, w.heap[b]? = some (.map arr clock) ∧ arr.toList.map (fun e => (e.key, e.val)) = es.map fun p => (.int k p.1, p.2)
theorem MapI.made (k : IntKind) (w : World) : MapI k (w.alloc (.map #[] 0)) w.heap.size [] := ⟨#[], 0, (MapKept.heap_alloc w _).1, rfl⟩
theorem MapI.same {k : IntKind} {w w' : World} {b : Nat} {es : List (Int × Value)} (h : MapI k w b es) (hw : w'.heap[b]? = w.heap[b]?) : MapI k w' b es := by
  obtain ⟨arr, clock, hb, he⟩ := h
  exact ⟨arr, clock, hw.trans hb, he⟩
theorem MapI.lt {k : IntKind} {w : World} {b : Nat} {es : List (Int × Value)} (h : MapI k w b es) : b < w.heap.size := by
  obtain ⟨arr, clock, hb, he⟩ := h
  exact (Array.getElem?_eq_some_iff.1 hb).1
theorem findNow_int (k : IntKind) (x : Int) : ∀ (l : List MapEntry) (es : List (Int × Value)) (i : Nat), l.map (fun e => (e.key, e.val)) = es.map (fun p => (.int k p.1, p.2)) →
    (Instr.findNow (.int k) (.int k x) l i = some none ∧ getM es x = none) ∨ ∃ j v, Instr.findNow (.int k) (.int k x) l i = some (some (i + j, v)) ∧ getM es x = some v ∧ (l[j]?).map (·.key) = some (.int k x) ∧
      ∀ u, (l.modify j fun e => { e with key := .int k x, val := u }).map (fun e => (e.key, e.val)) = (updM es x u).map (fun p => (.int k p.1, p.2))
  | [], es, i, h => by
    have : es = [] := by cases es <;> simp_all
    subst this
    exact .inl ⟨rfl, rfl⟩
  | e :: l, [], i, h => by simp at h
  | e :: l, p :: es, i, h => by
    simp only [List.map_cons, List.cons.injEq, Prod.mk.injEq] at h
    obtain ⟨⟨hk, hv⟩, hr⟩ := h
    by_cases hx : p.1 = x
    · refine .inr ⟨0, e.val, ?_, ?_, ?_, fun u => ?_⟩
      · have : (x == p.1) = true := by simp [hx]
        simp [Instr.findNow, Instr.sameNow, hk, this]
      · simp [getM, hx, hv]
      · simp [hk, hx]
      · simp [updM, hx, hr, hv]
    · have hne : (x == p.1) = false := by simp [Ne.symm hx]
      rcases findNow_int k x l es (i + 1) hr with ⟨h1, h2⟩ | ⟨j, v, h1, h2, h3, h4⟩
      · exact .inl ⟨by simp [Instr.findNow, Instr.sameNow, hk, hne, h1], by simp [getM, hx, h2]⟩
      · refine .inr ⟨j + 1, v, ?_, by simp [getM, hx, h2], by simpa using h3, fun u => ?_⟩
        · simp only [Instr.findNow, Instr.sameNow, hk, hne, if_true, h1]
          simp; omega
        · simp [updM, hx, h4 u, hk, hv]
section
variable {P : Program} {k : IntKind} {w : World} {b : Nat} {es : List (Int × Value)} {t kt e : TypeId}
theorem MapI.look (h : MapI k w b es) (ht : P.underlying t = some (.map kt e)) (hk : P.underlying kt = some (.int k)) {z : Value} (hz : (zeroValue e).run P w = .ok z w) (x : Int) :
    (Instr.lookup t (.map (some b)) (.int k x) false).run P w = .ok ((getM es x).getD z) w := by
  obtain ⟨arr, clock, hb, he⟩ := h
  have hck : (Instr.checkKey arr.isEmpty 10000 kt (.int k x)).run P w = .ok () w := MapKept.run_checkKey hk (by simp [MapKept.IsKey]) _ _
  rcases findNow_int k x arr.toList es 0 he with ⟨h1, h2⟩ | ⟨j, v, h1, h2, _, _⟩
  · have hf := MapKept.run_findKey (w := w) hk h1
    simp [Instr.lookup, run_underlying ht, MapKept.run_getObj_map hb, hck, hf, hz, Result.andThen, h2]
  · have hf := MapKept.run_findKey (w := w) hk h1
    simp [Instr.lookup, run_underlying ht, MapKept.run_getObj_map hb, hck, hf, Result.andThen, h2]
theorem MapI.look_ok (h : MapI k w b es) (ht : P.underlying t = some (.map kt e)) (hk : P.underlying kt = some (.int k)) {z : Value} (hz : (zeroValue e).run P w = .ok z w) (x : Int) :
    (Instr.lookup t (.map (some b)) (.int k x) true).run P w = .ok (.tuple #[(getM es x).getD z, .bool (getM es x).isSome]) w := by
  obtain ⟨arr, clock, hb, he⟩ := h
  have hck : (Instr.checkKey arr.isEmpty 10000 kt (.int k x)).run P w = .ok () w := MapKept.run_checkKey hk (by simp [MapKept.IsKey]) _ _
  rcases findNow_int k x arr.toList es 0 he with ⟨h1, h2⟩ | ⟨j, v, h1, h2, _, _⟩
  · have hf := MapKept.run_findKey (w := w) hk h1
    simp [Instr.lookup, run_underlying ht, MapKept.run_getObj_map hb, hck, hf, hz, Result.andThen, h2]
  · have hf := MapKept.run_findKey (w := w) hk h1
    simp [Instr.lookup, run_underlying ht, MapKept.run_getObj_map hb, hck, hf, Result.andThen, h2]
theorem MapI.len (h : MapI k w b es) (ht : P.underlying t = some (.map kt e)) (ty : TypeId) : (Builtin.len_ #[t] ty #[.map (some b)]).run P w = .ok (.int .i64 es.length) w := by
  obtain ⟨arr, clock, hb, he⟩ := h
  have e1 : arr.size = es.length := by have := congrArg List.length he; simpa using this
  simp [Builtin.len_, run_underlying ht, MapKept.run_getObj_map hb, goInt, Result.andThen, e1]
theorem MapI.store (h : MapI k w b es) (ht : P.underlying t = some (.map kt e)) (hk : P.underlying kt = some (.int k)) (x : Int) (u : Value) :
    ∃ w', (Instr.mapUpdate t (.map (some b)) (.int k x) u).run P w = .ok () w' ∧ MapI k w' b (updM es x u) ∧ w.grownBy w' (some b) ∧ w'.heap.size = w.heap.size := by
  obtain ⟨arr, clock, hb, he⟩ := h
  have hck : (Instr.checkKey false 10000 kt (.int k x)).run P w = .ok () w := MapKept.run_checkKey hk (by simp [MapKept.IsKey]) _ _
  have out : ∀ o, w.grownBy { w with heap := w.heap.setIfInBounds b o } (some b) := fun o =>
    ⟨rfl, rfl, rfl, by simp, fun i _ hi => (MapKept.heap_set hb).2 i (fun e => hi (by rw [e]))⟩
  rcases findNow_int k x arr.toList es 0 he with ⟨h1, h2⟩ | ⟨j, v, h1, h2, h3, h4⟩
  · have hf := MapKept.run_findKey (w := w) hk h1
    refine ⟨{ w with heap := w.heap.setIfInBounds b (.map (arr.push { key := .int k x, val := u, born := clock }) (clock + 1)) }, ?_, ⟨_, _, (MapKept.heap_set hb).1, ?_⟩, out _, by simp⟩
    · simp [Instr.mapUpdate, run_underlying ht, MapKept.run_getObj_map hb, hck, hf, MapKept.run_setObj_map _ hb, Result.andThen]
    · have key : ∀ es : List (Int × Value), getM es x = none → updM es x u = es ++ [(x, u)] := by
        intro es
        induction es with
        | nil => intro _; rfl
        | cons p es ih =>
          intro hh
          unfold getM at hh
          by_cases hx : p.1 = x
          · simp [hx] at hh
          · rw [if_neg hx] at hh; simp [updM, hx, ih hh]
      rw [key es h2]
      simp [he]
  · have hf := MapKept.run_findKey (w := w) hk h1
    have hkey : ((arr[0 + j]?).map (·.key)).getD (.int k x) = .int k x := by
      rw [Nat.zero_add]
      have h3' : (arr[j]?).map (·.key) = some (.int k x) := by simpa using h3
      rw [h3']; rfl
    have hstay : (Instr.keyThatStays (.int k x) (.int k x)).run P w = .ok (.int k x) w := by
      unfold Instr.keyThatStays
      have : Instr.sameBits 10000 (.int k x) (.int k x) = true := by
        unfold Instr.sameBits
        simp
      rw [this]
      rfl
    refine ⟨{ w with heap := w.heap.setIfInBounds b (.map (arr.modify (0 + j) fun e => { e with key := .int k x, val := u }) clock) }, ?_, ⟨_, _, (MapKept.heap_set hb).1, ?_⟩, out _, by simp⟩
    · simp only [Instr.mapUpdate, Sem.run_bind, run_underlying ht, Result.andThen, MapKept.run_getObj_map hb, hck, hf, hkey, hstay, MapKept.run_setObj_map _ hb]
    · rw [Nat.zero_add, Array.toList_modify]; exact h4 u
end
theorem wpList_lookI {P : Program} {w : World} {ops : Array Oper} {rest : List Oper} {o : Oper} {a : Act} {Q : Exit → Act → World → Prop}
    (hg : o.guard = none) (m x : Operand) (t : TypeId) (hop : o.op = Op.lookup t m x false) (kt e : TypeId) (k : IntKind) (ht : P.underlying t = some (.map kt e)) (hk : P.underlying kt = some (.int k))
    (z : Value) (hz : (zeroValue e).run P w = .ok z w) (b : Nat) (es : List (Int × Value)) (n : Int) (hm : a.eval m = .map (some b)) (hx : a.eval x = .int k n) (h : MapI k w b es)
    (hK : wpList P ops Q rest (a.put o.dst ((getM es n).getD z)) w) : wpList P ops Q (o :: rest) a w := by
  refine wpList_plain hg fun K' hK' => ?_
  unfold Oper.wp
  simp [execOp, hop, hm, hx, h.look ht hk hz n, Result.andThen]
  exact hK' _ _ hK
theorem wpList_lookI_ok {P : Program} {w : World} {ops : Array Oper} {rest : List Oper} {o : Oper} {a : Act} {Q : Exit → Act → World → Prop}
    (hg : o.guard = none) (m x : Operand) (t : TypeId) (hop : o.op = Op.lookup t m x true) (kt e : TypeId) (k : IntKind) (ht : P.underlying t = some (.map kt e)) (hk : P.underlying kt = some (.int k))
    (z : Value) (hz : (zeroValue e).run P w = .ok z w) (b : Nat) (es : List (Int × Value)) (n : Int) (hm : a.eval m = .map (some b)) (hx : a.eval x = .int k n) (h : MapI k w b es)
    (hK : wpList P ops Q rest (a.put o.dst (.tuple #[(getM es n).getD z, .bool (getM es n).isSome])) w) : wpList P ops Q (o :: rest) a w := by
  refine wpList_plain hg fun K' hK' => ?_
  unfold Oper.wp
  simp [execOp, hop, hm, hx, h.look_ok ht hk hz n, Result.andThen]
  exact hK' _ _ hK
theorem wpList_storeI {P : Program} {w : World} {ops : Array Oper} {rest : List Oper} {o : Oper} {a : Act} {Q : Exit → Act → World → Prop}
    (hg : o.guard = none) (m x v : Operand) (t : TypeId) (hop : o.op = Op.mapUpdate t m x v) (kt e : TypeId) (k : IntKind) (ht : P.underlying t = some (.map kt e)) (hk : P.underlying kt = some (.int k))
    (b : Nat) (es : List (Int × Value)) (n : Int) (u : Value) (hm : a.eval m = .map (some b)) (hx : a.eval x = .int k n) (hv : a.eval v = u) (h : MapI k w b es)
    (hK : ∀ w', MapI k w' b (updM es n u) → w.grownBy w' (some b) → w'.heap.size = w.heap.size → wpList P ops Q rest (a.put o.dst undef) w') : wpList P ops Q (o :: rest) a w := by
  refine wpList_plain hg fun K' hK' => ?_
  obtain ⟨w', hrun, r1, r2, r3⟩ := h.store ht hk n u
  unfold Oper.wp
  simp [execOp, hop, hm, hx, hv, hrun, Result.andThen]
  exact hK' _ _ (hK w' r1 r2 r3)
theorem wpList_lenI {P : Program} {w : World} {ops : Array Oper} {rest : List Oper} {o : Oper} {a : Act} {Q : Exit → Act → World → Prop}
    (hg : o.guard = none) (m : Operand) (t : TypeId) (hop : o.op = Op.call { callee := Callee.builtin Builtin.len, args := #[m], argTypes := #[t] })
    (kt e : TypeId) (k : IntKind) (ht : P.underlying t = some (.map kt e)) (b : Nat) (es : List (Int × Value)) (hm : a.eval m = .map (some b)) (h : MapI k w b es)
    (hK : wpList P ops Q rest (a.put o.dst (.int .i64 es.length)) w) : wpList P ops Q (o :: rest) a w := by
  refine wpList_plain hg fun K' hK' => ?_
  unfold Oper.wp
  simp [execOp, hop, resolve, invoke, builtin, hm, h.len ht o.type, Result.andThen]
  exact hK' _ _ hK
end Go.Proofs.Ytenjpldinnbcbaa
/- The walks of slices.Index and slices.Contains over whole numbers; a map's literal. -/

namespace Go.Proofs.Ytenjpldinnbcbaa
open Go.RowKit
set_option linter.unusedVariables false
set_option linter.unusedSimpArgs false
set_option maxRecDepth 100000
set_option maxHeartbeats 1000000

theorem wpList_insertI {P : Program} {w : World} {ops : Array Oper} {rest : List Oper} {o : Oper} {a : Act} {Q : Exit → Act → World → Prop}
    (hg : o.guard = none) (m x v : Operand) (t : TypeId) (hop : o.op = Op.insert t m x v) (kt e : TypeId) (k : IntKind) (ht : P.underlying t = some (.map kt e)) (hk : P.underlying kt = some (.int k))
    (b : Nat) (es : List (Int × Value)) (n : Int) (u : Value) (hm : a.eval m = .map (some b)) (hx : a.eval x = .int k n) (hv : a.eval v = u) (h : MapI k w b es)
    (hK : ∀ w', MapI k w' b (updM es n u) → w.grownBy w' (some b) → w'.heap.size = w.heap.size → wpList P ops Q rest (a.put o.dst undef) w') : wpList P ops Q (o :: rest) a w := by
  refine wpList_plain hg fun K' hK' => ?_
  obtain ⟨w', hrun, r1, r2, r3⟩ := h.store ht hk n u
  unfold Oper.wp
  simp [execOp, hop, hm, hx, hv, hrun, Result.andThen]
  exact hK' _ _ (hK w' r1 r2 r3)

theorem Ints.lit (w : World) (cs : Array Value) (e : TypeId) (l : List Int) {n g : Nat} {fr : Nat × Nat} (hg : g = w.heap.size) (hn : n = cs.size) (hl : cs.toList = l.map i64v) (h8 : ∀ x ∈ l, -9223372036854775808 ≤ x ∧ x ≤ 9223372036854775807) (hm : l.length ≤ 1048576) :
    Ints (w.alloc (.cells cs e fr)) (.slice (some ⟨g, 0, none⟩) n n) l := by
  subst hn
  subst hg
  have hs : cs.size = l.length := by have := congrArg List.length hl; simpa using this
  rw [hs]
  refine ⟨_, _, rfl, Nat.le_refl _, by simp [maxLen]; omega, (fun e => by cases e), h8, .inr ⟨w.heap.size, 0, rfl, by simp, fun i hi => ?_⟩⟩
  rw [Nat.zero_add, cell_of_row _ w.heap.size i cs e fr (heap_alloc_new w _), ← hl]; simp
theorem Ints.cellAt {w : World} {ao : Option Addr} {n cap : Nat} {l : List Int} (h : Ints w (.slice ao n cap) l) {k : Nat} (hk : k < l.length) :
    ∃ b off x, ao = some ⟨b, off, none⟩ ∧ w.cell? ⟨b, off + k, none⟩ = some (.int .i64 x) ∧ Hid (l[k]? = some x) ∧ (-9223372036854775808 ≤ x ∧ x ≤ 9223372036854775807) := by
  obtain ⟨ao', cap', e, h1, h2, h0, h3, hA⟩ := h
  cases e
  obtain ⟨b, off, c, rfl, hc, hck⟩ := hA.cell (k := k) (by simpa using hk)
  rw [List.getElem?_map, List.getElem?_eq_getElem hk] at hck
  simp only [Option.map_some, Option.some.injEq] at hck
  exact ⟨b, off, l[k], rfl, by rw [hc, ← hck]; rfl, List.getElem?_eq_getElem hk, h3 _ (List.getElem_mem hk)⟩
/-- is a number there? -/
def memB (l : List Int) (x : Int) : Bool := decide (x ∈ l)
theorem memB_iff (l : List Int) (x : Int) : memB l x = true ↔ x ∈ l := by unfold memB; exact decide_eq_true_iff
/-- slices.Index: at least 0 just when it is there -/
theorem index_any (v : Value) (l : List Int) (x : Int) (w : World) (h : Ints w v l) (hx : -9223372036854775808 ≤ x ∧ x ≤ 9223372036854775807) :
    Calls Try.prog 126 #[v, .int .i64 x] w fun e w' => ∃ r : Int, e = .returned (.int .i64 r) ∧ -1 ≤ r ∧ r ≤ 9223372036854775807 ∧ Hid (0 ≤ r ↔ x ∈ l) ∧ Dr w w' := by
  have h' := Lib.hid h
  obtain ⟨ao, cap, rfl, hc1, hc2, _, hl, hA⟩ := h
  unfold maxLen at hc2
  clear hA hl
  go_enter Try.func126, Try.ntmps126
  go_wp2
  go_loopw [8] (fun i w' => ∃ k : Nat, k ≤ l.length ∧ i = .int .i64 k ∧ Hid (∀ j, j < k → l[j]? ≠ some x) ∧ Dr w w') (fun i _ => l.length - (intOf i).toNat)
  case atStart => exact ⟨0, Nat.zero_le _, rfl, Lib.hid (fun j hj => by omega), Dr.refl _⟩
  case round =>
    obtain ⟨k, hk, rfl, hall, ⟨q, rfl⟩⟩ := hrel
    by_cases hlt : k < l.length
    · obtain ⟨b, off, y, rfl, hy, hky, hyb⟩ := h'.out.cellAt hlt
      by_cases hxy : x = y
      · have hb : (x == y) = true := by rw [hxy]; simp
        have HX := Lib.hid hxy
        clear hxy
        go_wp2
        go_ret
        refine ⟨k, rfl, by omega, by omega, Lib.hid ⟨fun _ => ?_, fun _ => by omega⟩, by first | exact ⟨_, rfl⟩ | exact Dr.step ⟨_, rfl⟩ _⟩
        rw [HX.out]; exact List.mem_of_getElem? hky.out
      · have hb : (x == y) = false := by rw [beq_eq_false_iff_ne]; exact hxy
        have HX := Lib.hid hxy
        clear hxy
        go_wp2
        go_roundw
        case rel =>
          refine ⟨k + 1, by omega, by go_num, Lib.hid (fun j hj => ?_), by first | exact ⟨_, rfl⟩ | exact Dr.step ⟨_, rfl⟩ _⟩
          by_cases hjk : j = k
          · rw [hjk, hky.out]; intro e; exact HX.out (Option.some.inj e).symm
          · exact hall.out j (by omega)
        case measure => simp [intOf]; omega
    · go_wp2
      go_ret
      refine ⟨-1, rfl, by omega, by omega, Lib.hid ⟨fun h => by omega, fun h => ?_⟩, by first | exact ⟨_, rfl⟩ | exact Dr.step ⟨_, rfl⟩ _⟩
      obtain ⟨j, hj⟩ := List.getElem?_of_mem h
      have hjl : j < l.length := by rcases Nat.lt_or_ge j l.length with h | h; exact h; rw [List.getElem?_eq_none h] at hj; cases hj
      exact absurd hj (hall.out j (by omega))
theorem contains_any (v : Value) (l : List Int) (x : Int) (w : World) (h : Ints w v l) (hx : -9223372036854775808 ≤ x ∧ x ≤ 9223372036854775807) :
    Calls Try.prog 123 #[v, .int .i64 x] w fun e w' => e = .returned (.bool (memB l x)) ∧ Dr w w' := by
  go_enter Try.func123, Try.ntmps123
  go_wp2_with fail
  refine Calls.mono (index_any v l x _ h hx) ?_
  rintro e w1 ⟨r, rfl, r1, r2, HR, D⟩
  go_wp2
  go_ret
  refine ⟨ret_bool ?_, D⟩
  unfold memB; rw [decide_eq_decide]; exact HR.out
end Go.Proofs.Ytenjpldinnbcbaa
/- The walks of package geom and of the reference's geometries. -/

namespace Go.Proofs.Ytenjpldinnbcbaa
open Go.RowKit
set_option linter.unusedVariables false
set_option linter.unusedSimpArgs false
set_option maxRecDepth 100000
set_option maxHeartbeats 1000000

theorem boxed_cells {w w1 w2 : World} {cs : Array Value} {e : TypeId} {o : Obj} {fr : Nat × Nat} {b : Nat} (hb : b = w.heap.size + 1) (hg1 : ((w.alloc (.cells cs e fr)).alloc o).grownBy w1 (some b)) (hg2 : w1.grownBy w2 (some b)) (j : Nat) {v : Value} (hv : cs[j]? = some v) :
    w2.cell? ⟨w.heap.size, j, none⟩ = some v := by
  subst hb
  have h1 : (w.alloc (.cells cs e fr)).heap[w.heap.size]? = some (.cells cs e fr) := heap_alloc_new w _
  have hlt : w.heap.size < ((w.alloc (.cells cs e fr)).alloc o).heap.size := by simp; omega
  have h2 : ((w.alloc (.cells cs e fr)).alloc o).heap[w.heap.size]? = some (.cells cs e fr) := by rw [Below.heap_alloc _ _ _ (by simp)]; exact h1
  have h3 := hg1.block _ hlt (by simp)
  have h4 := hg2.block _ (Nat.lt_of_lt_of_le hlt hg1.size) (by simp)
  rw [cell_of_row w2 w.heap.size j cs e fr (h4.trans (h3.trans h2)), hv]
def leastI (l : Int) : Int := if l = 5 then 3 else if l = 6 then 4 else 0
theorem gcheck_any (l d c : Int) (w : World) (hl : i64b l) (hd : i64b d) (hc : i64b c) :
    Calls Try.prog 117 #[.agg #[.int .i64 l, .int .i64 d, .int .i64 c]] w fun e w' => e = .returned (.int .i64 (Geo.mk l d c).err) ∧ Below w.heap.size w w' := by
  have hz : ∀ w : World, (zeroValue 3).run Try.prog w = .ok (.int .i64 0) w := fun w => by kernel_rfl
  have HZ := Lib.hid hz
  have hg : ∀ x : Int, (getM (updM (updM [] 5 (.int .i64 3)) 6 (.int .i64 4)) x).getD (.int .i64 0) = .int .i64 (leastI x) := by
    intro x
    rw [getM_upd, getM_upd]; unfold leastI
    by_cases h6 : 6 = x
    · subst h6; rfl
    · rw [if_neg h6]
      by_cases h5 : 5 = x
      · subst h5; rfl
      · rw [if_neg h5, if_neg (fun e => h5 e.symm), if_neg (fun e => h6 e.symm)]; rfl
  have HG := Lib.hid hg
  have hok : (Geo.mk l d c).ok = decide (leastI l ≠ 0 ∧ leastI l ≤ d ∧ d ≤ 8 ∧ (c = 1 ∨ c = 2 ∨ c = 4)) := by
    unfold Geo.ok leastI
    rw [decide_eq_decide]
    show _ ↔ _
    dsimp only
    split
    · omega
    · split <;> omega
  have HOK := Lib.hid hok
  have hm1 : 0 ≤ leastI l ∧ leastI l ≤ 4 := by unfold leastI; split; omega; split <;> omega
  obtain ⟨m, hm⟩ : ∃ m, m = leastI l := ⟨_, rfl⟩
  rw [← hm] at hm1
  have HM := Lib.hid hm
  obtain ⟨hm1, hm2⟩ := hm1
  have hmem : memB [1, 2, 4] c = true ↔ (c = 1 ∨ c = 2 ∨ c = 4) := by rw [memB_iff]; simp
  obtain ⟨mb, hmb⟩ : ∃ mb, mb = memB [1, 2, 4] c := ⟨_, rfl⟩
  rw [← hmb] at hmem
  have HB := Lib.hid hmb
  clear hz hg hok hm hmb
  have hcs : (mb = true ∧ Hid (c = 1 ∨ c = 2 ∨ c = 4)) ∨ (mb = false ∧ Hid (¬ (c = 1 ∨ c = 2 ∨ c = 4))) := by
    cases mb
    · exact .inr ⟨rfl, Lib.hid fun h => by simpa using hmem.2 h⟩
    · exact .inl ⟨rfl, Lib.hid (hmem.1 rfl)⟩
  clear hmem
  rcases hcs with ⟨rfl, HC⟩ | ⟨rfl, HC⟩
  all_goals
    have hmm := @run_makeMap Try.prog
    go_enter Try.func117, Try.ntmps117
    go_wp2_with (first
      | (refine wpList_insertI rfl _ _ _ 162 rfl 3 3 .i64 Try.underlying162 Try.underlying3 (w.heap.size + 1) (updM [] 5 (.int .i64 3)) 6 (.int .i64 4) rfl rfl rfl hM1 ?_; intro w2 hM2 hg2 hs2; have hlook := hM2.look Try.underlying162 Try.underlying3 (HZ.out _) l; rw [HG.out, ← HM.out] at hlook; have c0 := boxed_cells rfl hg1 hg2 0 rfl; have c1 := boxed_cells rfl hg1 hg2 1 rfl; have c2 := boxed_cells rfl hg1 hg2 2 rfl)
      | (refine wpList_insertI rfl _ _ _ 162 rfl 3 3 .i64 Try.underlying162 Try.underlying3 (w.heap.size + 1) [] 5 (.int .i64 3) rfl rfl rfl (by simpa using MapI.made .i64 (w.alloc _)) ?_; intro w1 hM1 hg1 hs1)
      | (go_at_call 123; refine Calls.mono (contains_any _ [1, 2, 4] c _ (Ints.lit _ _ _ [1, 2, 4] (by rw [hs2, hs1]; simp) rfl rfl (by decide) (by decide)) hc) ?_; rw [← HB.out]; rintro e w3 ⟨rfl, D3⟩))
    all_goals
      go_ret
      refine ⟨ret_i64 ?_, ?_⟩
      · first
          | exact (Geo.err_yes (by rw [HOK.out, decide_eq_true_iff, ← HM.out]; exact ⟨by omega, by omega, by omega, HC.out⟩)).symm
          | (refine (Geo.err_no ?_).symm; rw [HOK.out, decide_eq_false_iff_not, ← HM.out]; rintro ⟨h1, h2, h3, h4⟩; first | omega | exact HC.out h4 | (rename_i hh _ _ _ _; simp at hh; omega) | (rename_i hh; simp at hh; omega))
      · have k1 : Below w.heap.size w w1 := (belA2 (belR w)).grown hg1 (by simp; omega) (fun g hg => by cases hg; omega)
        have k2 : Below w.heap.size w w2 := k1.grown hg2 k1.size (fun g hg => by cases hg; omega)
        first | exact k2 | exact belT (belAlloc k2 _) (D3.below _)
end Go.Proofs.Ytenjpldinnbcbaa
/- The walks of geom.Budget, Width, Can. -/

namespace Go.Proofs.Ytenjpldinnbcbaa
open Go.RowKit
set_option linter.unusedVariables false
set_option linter.unusedSimpArgs false
set_option maxRecDepth 100000
set_option maxHeartbeats 2000000

theorem box_up {w w1 : World} {cs : Array Value} {e : TypeId} {fr : Nat × Nat} (h : Below (w.alloc (.cells cs e fr)).heap.size (w.alloc (.cells cs e fr)) w1) (j : Nat) {v : Value} (hv : cs[j]? = some v) :
    w1.cell? ⟨w.heap.size, j, none⟩ = some v := by
  have h1 : (w.alloc (.cells cs e fr)).heap[w.heap.size]? = some (.cells cs e fr) := heap_alloc_new w _
  rw [cell_of_row w1 w.heap.size j cs e fr ((h.block _ (by simp)).trans h1), hv]
/-- the first of two boxes -/
theorem box_up2 {w w1 : World} {cs : Array Value} {e : TypeId} {fr : Nat × Nat} {o : Obj} (h : Below ((w.alloc (.cells cs e fr)).alloc o).heap.size ((w.alloc (.cells cs e fr)).alloc o) w1) (j : Nat) {v : Value} (hv : cs[j]? = some v) :
    w1.cell? ⟨w.heap.size, j, none⟩ = some v := box_up (belT (belA1 (belR _)) h) j hv
theorem box_up2b {w w1 : World} {cs : Array Value} {e : TypeId} {fr : Nat × Nat} {o : Obj} (h : Below ((w.alloc o).alloc (.cells cs e fr)).heap.size ((w.alloc o).alloc (.cells cs e fr)) w1) (j : Nat) {v : Value} (hv : cs[j]? = some v) :
    w1.cell? ⟨w.heap.size + 1, j, none⟩ = some v := by
  have := box_up h j hv
  simpa using this
theorem budget_any (l d c : Int) (w : World) (hl : i64b l) (hd : i64b d) (hc : i64b c) :
    Calls Try.prog 127 #[.agg #[.int .i64 l, .int .i64 d, .int .i64 c]] w fun e w' => e = .returned (.int .i64 (Geo.mk l d c).budget) ∧ Below w.heap.size w w' := by
  by_cases hok : (Geo.mk l d c).ok = true
  · have hb : Hid ((Geo.mk l d c).budget = l - 4) := by show _ = _; unfold Geo.budget; rw [if_pos hok]
    have he : (Geo.mk l d c).err = 0 := Geo.err_yes hok
    have hr := (Geo.ok_iff _).1 hok
    have h5 : 5 ≤ l ∧ l ≤ 6 := by have := hr.1; dsimp only at this; omega
    obtain ⟨h5, h6⟩ := h5
    have HE := Lib.hid he
    clear he hr hok
    go_enter Try.func127, Try.ntmps127
    go_wp2_with (go_at_call 117; refine Calls.mono (gcheck_any l d c _ hl hd hc) ?_; rw [HE.out]; rintro e w1 ⟨rfl, b1⟩; have c0 := box_up b1 0 rfl)
    go_ret
    exact ⟨ret_i64 hb.out.symm, belT (belA1 (belR _)) b1⟩
  · have hok := Bool.eq_false_iff.2 hok
    have hb : Hid ((Geo.mk l d c).budget = 0) := by show _ = _; unfold Geo.budget; rw [if_neg (by rw [hok]; decide)]
    have he : (Geo.mk l d c).err = 1 := Geo.err_no hok
    have HE := Lib.hid he
    clear he hok
    go_enter Try.func127, Try.ntmps127
    go_wp2_with (go_at_call 117; refine Calls.mono (gcheck_any l d c _ hl hd hc) ?_; rw [HE.out]; rintro e w1 ⟨rfl, b1⟩)
    go_ret
    exact ⟨ret_i64 hb.out.symm, belT (belA1 (belR _)) b1⟩
theorem width_any (l d c : Int) (w : World) (hl : i64b l) (hd : i64b d) (hc : i64b c) :
    Calls Try.prog 124 #[.agg #[.int .i64 l, .int .i64 d, .int .i64 c]] w fun e w' => e = .returned (.int .i64 (Geo.mk l d c).width) ∧ Below w.heap.size w w' := by
  by_cases hok : (Geo.mk l d c).ok = true
  · have hb : Hid ((Geo.mk l d c).budget = l - 4) := by show _ = _; unfold Geo.budget; rw [if_pos hok]
    have hb2 : Hid ((Geo.mk l d c).width = d - (l - 4)) := by show _ = _; unfold Geo.width; rw [if_pos hok]
    have he : (Geo.mk l d c).err = 0 := Geo.err_yes hok
    have hr := (Geo.ok_iff _).1 hok
    have h5 : 5 ≤ l ∧ l ≤ 6 ∧ 3 ≤ d ∧ d ≤ 8 := by have := hr.1; have := hr.2.1; dsimp only at *; omega
    obtain ⟨h5, h6, h7, h8⟩ := h5
    have hw : IntKind.i64.wrap (d - (l - 4)) = d - (l - 4) := by rw [IntKind.wrap_i64]; omega
    have HW := Lib.hid hw
    have HE := Lib.hid he
    clear he hr hok hw
    go_enter Try.func124, Try.ntmps124
    go_wp2_with (go_at_call 117; refine Calls.mono (gcheck_any l d c _ hl hd hc) ?_; rw [HE.out]; rintro e w1 ⟨rfl, b1⟩)
    have c0 := box_up b1 0 rfl
    have c1 := box_up b1 1 rfl
    have c2 := box_up b1 2 rfl
    have HK : Hid (∀ W, Below w1.heap.size w1 W → W.cell? ⟨w.heap.size, 0, none⟩ = some (.int .i64 l) ∧ W.cell? ⟨w.heap.size, 1, none⟩ = some (.int .i64 d) ∧ W.cell? ⟨w.heap.size, 2, none⟩ = some (.int .i64 c)) := by
      intro W hW
      exact ⟨by rw [hW.cell (World.block_lt_of_cell? _ _ c0)]; exact c0, by rw [hW.cell (World.block_lt_of_cell? _ _ c1)]; exact c1, by rw [hW.cell (World.block_lt_of_cell? _ _ c2)]; exact c2⟩
    go_region_held3 (fun w' => w'.cell? ⟨w.heap.size, 0, none⟩ = some (.int .i64 l) ∧ w'.cell? ⟨w.heap.size, 1, none⟩ = some (.int .i64 d) ∧ w'.cell? ⟨w.heap.size, 2, none⟩ = some (.int .i64 c))
      ((refine HK.out _ ?_; iterate 8 try (first | assumption | apply belDr | apply belAlloc | exact belR _)))
      ((go_at_call 127; refine Calls.mono (budget_any l d c _ hl hd hc) ?_; rw [hb.out]; rintro e w2 ⟨rfl, b2⟩; have B2 : Below w1.heap.size w1 w2 := belT (by iterate 8 try (first | assumption | apply belDr | apply belAlloc | exact belR _)) b2))
    go_wp2
    go_ret
    exact ⟨ret_i64 (by rw [hb2.out, HW.out]), belT (belT (belA1 (belR _)) b1) (by assumption)⟩
  · have hok := Bool.eq_false_iff.2 hok
    have hb : Hid ((Geo.mk l d c).width = 0) := by show _ = _; unfold Geo.width; rw [if_neg (by rw [hok]; decide)]
    have he : (Geo.mk l d c).err = 1 := Geo.err_no hok
    have HE := Lib.hid he
    clear he hok
    go_enter Try.func124, Try.ntmps124
    go_wp2_with (go_at_call 117; refine Calls.mono (gcheck_any l d c _ hl hd hc) ?_; rw [HE.out]; rintro e w1 ⟨rfl, b1⟩)
    go_ret
    exact ⟨ret_i64 hb.out.symm, belT (belA1 (belR _)) b1⟩
end Go.Proofs.Ytenjpldinnbcbaa
/- Two geometries, two Supers: are they the same? What Go's == says. -/

namespace Go.Proofs.Ytenjpldinnbcbaa
open Go.RowKit
set_option linter.unusedVariables false
set_option linter.unusedSimpArgs false
set_option maxRecDepth 100000
set_option maxHeartbeats 1000000

theorem geq_in (n : Nat) (l d c l' d' c' : Int) (w : World) :
    (Op.equalIn (n + 2) 70 (.agg #[.int .i64 l, .int .i64 d, .int .i64 c]) (.agg #[.int .i64 l', .int .i64 d', .int .i64 c'])).run Try.prog w = .ok ((Geo.mk l d c).same (Geo.mk l' d' c')) w := by
  by_cases h1 : l = l'
  · by_cases h2 : d = d'
    · by_cases h3 : c = c'
      · have e : (Geo.mk l d c).same (Geo.mk l' d' c') = true := by rw [Geo.same_iff, Geo.eq_iff]; exact ⟨h1, h2, h3⟩
        rw [e]
        subst h1 h2 h3
        go_simp
      · have e : (Geo.mk l d c).same (Geo.mk l' d' c') = false := by unfold Geo.same; exact decide_eq_false (fun h => h3 h.2.2)
        have b : (c == c') = false := by rw [beq_eq_false_iff_ne]; exact h3
        rw [e]
        subst h1 h2
        clear h3
        go_simp
    · have e : (Geo.mk l d c).same (Geo.mk l' d' c') = false := by unfold Geo.same; exact decide_eq_false (fun h => h2 h.2.1)
      have b : (d == d') = false := by rw [beq_eq_false_iff_ne]; exact h2
      rw [e]
      subst h1
      clear h2
      go_simp
  · have e : (Geo.mk l d c).same (Geo.mk l' d' c') = false := by unfold Geo.same; exact decide_eq_false (fun h => h1 h.1)
    have b : (l == l') = false := by rw [beq_eq_false_iff_ne]; exact h1
    rw [e]
    clear h1
    go_simp
theorem geq_run (l d c l' d' c' : Int) (w : World) :
    (Op.equalIn 10000 70 (.agg #[.int .i64 l, .int .i64 d, .int .i64 c]) (.agg #[.int .i64 l', .int .i64 d', .int .i64 c'])).run Try.prog w = .ok ((Geo.mk l d c).same (Geo.mk l' d' c')) w := geq_in 9998 l d c l' d' c' w
end Go.Proofs.Ytenjpldinnbcbaa
/- The walks of the reference's Check, Budget, Width of geometries. -/

namespace Go.Proofs.Ytenjpldinnbcbaa
open Go.RowKit
set_option linter.unusedVariables false
set_option linter.unusedSimpArgs false
set_option maxRecDepth 100000
set_option maxHeartbeats 2000000

theorem refgcheck_any (l d c : Int) (w : World) (hl : i64b l) (hd : i64b d) (hc : i64b c) :
    Calls Try.prog 106 #[.agg #[.int .i64 l, .int .i64 d, .int .i64 c]] w fun e w' => e = .returned (.bool (Geo.mk l d c).ok) ∧ Below w.heap.size w w' := by
  obtain ⟨v, hv⟩ : ∃ v, (Geo.mk l d c).ok = v := ⟨_, rfl⟩
  have key : v = true ↔ (l = 5 ∧ 3 ≤ d ∨ l = 6 ∧ 4 ≤ d) ∧ d ≤ 8 ∧ (c = 1 ∨ c = 2 ∨ c = 4) := by
    rw [← hv, Geo.ok_iff]
  rw [hv]
  have KEY := Lib.hid key
  clear key hv
  go_enter Try.func106, Try.ntmps106
  go_wp2_with fail
  all_goals
    go_ret
    refine ⟨ret_bool ?_, belA1 (belR _)⟩
    rw [Bool.eq_iff_iff, KEY.out]
    first
      | (simp only [Bool.or_eq_true, beq_iff_eq, true_iff, Bool.false_eq_true, false_iff] at *; omega)
      | (simp only [Bool.or_eq_true, beq_iff_eq, beq_eq_false_iff_ne, ne_eq, true_iff, Bool.false_eq_true, false_iff] at *; omega)
theorem refbudget_any (l d c : Int) (w : World) (hl : i64b l) (hd : i64b d) (hc : i64b c) :
    Calls Try.prog 125 #[.agg #[.int .i64 l, .int .i64 d, .int .i64 c]] w fun e w' => e = .returned (.int .i64 (Geo.mk l d c).budget) ∧ Below w.heap.size w w' := by
  by_cases hok : (Geo.mk l d c).ok = true
  · have hb : Hid ((Geo.mk l d c).budget = l - 4) := by show _ = _; unfold Geo.budget; rw [if_pos hok]
    have he : (Geo.mk l d c).ok = true := hok
    have hr := (Geo.ok_iff _).1 hok
    have h5 : 5 ≤ l ∧ l ≤ 6 := by have := hr.1; dsimp only at this; omega
    obtain ⟨h5, h6⟩ := h5
    have HE := Lib.hid he
    clear he hr hok
    go_enter Try.func125, Try.ntmps125
    go_wp2_with (go_at_call 106; refine Calls.mono (refgcheck_any l d c _ hl hd hc) ?_; rw [HE.out]; rintro e w1 ⟨rfl, b1⟩; have c0 := box_up b1 0 rfl)
    go_ret
    exact ⟨ret_i64 hb.out.symm, belT (belA1 (belR _)) b1⟩
  · have hok := Bool.eq_false_iff.2 hok
    have hb : Hid ((Geo.mk l d c).budget = 0) := by show _ = _; unfold Geo.budget; rw [if_neg (by rw [hok]; decide)]
    have he : (Geo.mk l d c).ok = false := hok
    have HE := Lib.hid he
    clear he hok
    go_enter Try.func125, Try.ntmps125
    go_wp2_with (go_at_call 106; refine Calls.mono (refgcheck_any l d c _ hl hd hc) ?_; rw [HE.out]; rintro e w1 ⟨rfl, b1⟩)
    go_ret
    exact ⟨ret_i64 hb.out.symm, belT (belA1 (belR _)) b1⟩
theorem refwidth_any (l d c : Int) (w : World) (hl : i64b l) (hd : i64b d) (hc : i64b c) :
    Calls Try.prog 121 #[.agg #[.int .i64 l, .int .i64 d, .int .i64 c]] w fun e w' => e = .returned (.int .i64 (Geo.mk l d c).width) ∧ Below w.heap.size w w' := by
  by_cases hok : (Geo.mk l d c).ok = true
  · have hb : Hid ((Geo.mk l d c).budget = l - 4) := by show _ = _; unfold Geo.budget; rw [if_pos hok]
    have hb2 : Hid ((Geo.mk l d c).width = d - (l - 4)) := by show _ = _; unfold Geo.width; rw [if_pos hok]
    have he : (Geo.mk l d c).ok = true := hok
    have hr := (Geo.ok_iff _).1 hok
    have h5 : 5 ≤ l ∧ l ≤ 6 ∧ 3 ≤ d ∧ d ≤ 8 := by have := hr.1; have := hr.2.1; dsimp only at *; omega
    obtain ⟨h5, h6, h7, h8⟩ := h5
    have hw : IntKind.i64.wrap (d - (l - 4)) = d - (l - 4) := by rw [IntKind.wrap_i64]; omega
    have HW := Lib.hid hw
    have HE := Lib.hid he
    clear he hr hok hw
    go_enter Try.func121, Try.ntmps121
    go_wp2_with (go_at_call 106; refine Calls.mono (refgcheck_any l d c _ hl hd hc) ?_; rw [HE.out]; rintro e w1 ⟨rfl, b1⟩)
    have c0 := box_up b1 0 rfl
    have c1 := box_up b1 1 rfl
    have c2 := box_up b1 2 rfl
    have HK : Hid (∀ W, Below w1.heap.size w1 W → W.cell? ⟨w.heap.size, 0, none⟩ = some (.int .i64 l) ∧ W.cell? ⟨w.heap.size, 1, none⟩ = some (.int .i64 d) ∧ W.cell? ⟨w.heap.size, 2, none⟩ = some (.int .i64 c)) := by
      intro W hW
      exact ⟨by rw [hW.cell (World.block_lt_of_cell? _ _ c0)]; exact c0, by rw [hW.cell (World.block_lt_of_cell? _ _ c1)]; exact c1, by rw [hW.cell (World.block_lt_of_cell? _ _ c2)]; exact c2⟩
    go_region_held3 (fun w' => w'.cell? ⟨w.heap.size, 0, none⟩ = some (.int .i64 l) ∧ w'.cell? ⟨w.heap.size, 1, none⟩ = some (.int .i64 d) ∧ w'.cell? ⟨w.heap.size, 2, none⟩ = some (.int .i64 c))
      ((refine HK.out _ ?_; iterate 8 try (first | assumption | apply belDr | apply belAlloc | exact belR _)))
      ((go_at_call 125; refine Calls.mono (refbudget_any l d c _ hl hd hc) ?_; rw [hb.out]; rintro e w2 ⟨rfl, b2⟩; have B2 : Below w1.heap.size w1 w2 := belT (by iterate 8 try (first | assumption | apply belDr | apply belAlloc | exact belR _)) b2))
    go_wp2
    go_ret
    exact ⟨ret_i64 (by rw [hb2.out, HW.out]), belT (belT (belA1 (belR _)) b1) (by assumption)⟩
  · have hok := Bool.eq_false_iff.2 hok
    have hb : Hid ((Geo.mk l d c).width = 0) := by show _ = _; unfold Geo.width; rw [if_neg (by rw [hok]; decide)]
    have he : (Geo.mk l d c).ok = false := hok
    have HE := Lib.hid he
    clear he hok
    go_enter Try.func121, Try.ntmps121
    go_wp2_with (go_at_call 106; refine Calls.mono (refgcheck_any l d c _ hl hd hc) ?_; rw [HE.out]; rintro e w1 ⟨rfl, b1⟩)
    go_ret
    exact ⟨ret_i64 hb.out.symm, belT (belA1 (belR _)) b1⟩
end Go.Proofs.Ytenjpldinnbcbaa
