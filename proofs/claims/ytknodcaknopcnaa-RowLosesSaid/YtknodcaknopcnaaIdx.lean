/- The walks of slices.Index and slices.Contains over whole numbers; a map's literal. -/
import Derived.Test.YtknodcaknopcnaaKeep
import Derived.Test.YtknodcaknopcnaaOpen
import Derived.Test.YtknodcaknopcnaaMap
namespace Go.Proofs.Ytknodcaknopcnaa
open Go.RowKit
set_option linter.unusedVariables false
set_option linter.unusedSimpArgs false
set_option maxRecDepth 100000
set_option maxHeartbeats 1000000

theorem wpList_insertI {P : Program} {w : World} {ops : Array Oper} {rest : List Oper} {o : Oper} {a : Act} {Q : Exit → Act → World → Prop}
    (hg : o.guard = none) (m x v : Operand) (t : TypeId) (hop : o.op = Op.insert t m x v) (kt e : TypeId) (k : IntKind) (ht : P.underlying t = some (.map kt e)) (hk : P.underlying kt = some (.int k))
    (b : Nat) (es : List (Int × Value)) (n : Int) (u : Value) (hm : a.eval m = .map (some b)) (hx : a.eval x = .int k n) (hv : a.eval v = u) (h : MapI k w b es)
    (hK : ∀ w', MapI k w' b (updM es n u) → w.grownBy w' (some b) → w'.heap.size = w.heap.size → wpList P ops Q rest (a.put o.dst undef) w') : wpList P ops Q (o :: rest) a w := by
  refine wpList_plain hg fun K' hK' => ?_
  obtain ⟨w', hrun, r1, r2, r3⟩ := h.store ht hk n u
  unfold Oper.wp
  simp [execOp, hop, hm, hx, hv, hrun, Result.andThen]
  exact hK' _ _ (hK w' r1 r2 r3)

theorem Ints.lit (w : World) (cs : Array Value) (e : TypeId) (l : List Int) {n g : Nat} {fr : Nat × Nat} (hg : g = w.heap.size) (hn : n = cs.size) (hl : cs.toList = l.map i64v) (h8 : ∀ x ∈ l, -9223372036854775808 ≤ x ∧ x ≤ 9223372036854775807) (hm : l.length ≤ 1048576) :
    Ints (w.alloc (.cells cs e fr)) (.slice (some ⟨g, 0, none⟩) n n) l := by
  subst hn
  subst hg
  have hs : cs.size = l.length := by have := congrArg List.length hl; simpa using this
  rw [hs]
  refine ⟨_, _, rfl, Nat.le_refl _, by simp [maxLen]; omega, (fun e => by cases e), h8, .inr ⟨w.heap.size, 0, rfl, by simp, fun i hi => ?_⟩⟩
  rw [Nat.zero_add, cell_of_row _ w.heap.size i cs e fr (heap_alloc_new w _), ← hl]; simp
theorem Ints.cellAt {w : World} {ao : Option Addr} {n cap : Nat} {l : List Int} (h : Ints w (.slice ao n cap) l) {k : Nat} (hk : k < l.length) :
    ∃ b off x, ao = some ⟨b, off, none⟩ ∧ w.cell? ⟨b, off + k, none⟩ = some (.int .i64 x) ∧ Hid (l[k]? = some x) ∧ (-9223372036854775808 ≤ x ∧ x ≤ 9223372036854775807) := by
  obtain ⟨ao', cap', e, h1, h2, h0, h3, hA⟩ := h
  cases e
  obtain ⟨b, off, c, rfl, hc, hck⟩ := hA.cell (k := k) (by simpa using hk)
  rw [List.getElem?_map, List.getElem?_eq_getElem hk] at hck
  simp only [Option.map_some, Option.some.injEq] at hck
  exact ⟨b, off, l[k], rfl, by rw [hc, ← hck]; rfl, List.getElem?_eq_getElem hk, h3 _ (List.getElem_mem hk)⟩
/-- is a number there? -/
def memB (l : List Int) (x : Int) : Bool := decide (x ∈ l)
theorem memB_iff (l : List Int) (x : Int) : memB l x = true ↔ x ∈ l := by unfold memB; exact decide_eq_true_iff
/-- slices.Index: at least 0 just when it is there -/
theorem index_any (v : Value) (l : List Int) (x : Int) (w : World) (h : Ints w v l) (hx : -9223372036854775808 ≤ x ∧ x ≤ 9223372036854775807) :
    Calls Try.prog 71 #[v, .int .i64 x] w fun e w' => ∃ r : Int, e = .returned (.int .i64 r) ∧ -1 ≤ r ∧ r ≤ 9223372036854775807 ∧ Hid (0 ≤ r ↔ x ∈ l) ∧ Dr w w' := by
  have h' := Lib.hid h
  obtain ⟨ao, cap, rfl, hc1, hc2, _, hl, hA⟩ := h
  unfold maxLen at hc2
  clear hA hl
  go_enter Try.func71, Try.ntmps71
  go_wp2
  go_loopw [8] (fun i w' => ∃ k : Nat, k ≤ l.length ∧ i = .int .i64 k ∧ Hid (∀ j, j < k → l[j]? ≠ some x) ∧ Dr w w') (fun i _ => l.length - (intOf i).toNat)
  case atStart => exact ⟨0, Nat.zero_le _, rfl, Lib.hid (fun j hj => by omega), Dr.refl _⟩
  case round =>
    obtain ⟨k, hk, rfl, hall, ⟨q, rfl⟩⟩ := hrel
    by_cases hlt : k < l.length
    · obtain ⟨b, off, y, rfl, hy, hky, hyb⟩ := h'.out.cellAt hlt
      by_cases hxy : x = y
      · have hb : (x == y) = true := by rw [hxy]; simp
        have HX := Lib.hid hxy
        clear hxy
        go_wp2
        go_ret
        refine ⟨k, rfl, by omega, by omega, Lib.hid ⟨fun _ => ?_, fun _ => by omega⟩, by first | exact ⟨_, rfl⟩ | exact Dr.step ⟨_, rfl⟩ _⟩
        rw [HX.out]; exact List.mem_of_getElem? hky.out
      · have hb : (x == y) = false := by rw [beq_eq_false_iff_ne]; exact hxy
        have HX := Lib.hid hxy
        clear hxy
        go_wp2
        go_roundw
        case rel =>
          refine ⟨k + 1, by omega, by go_num, Lib.hid (fun j hj => ?_), by first | exact ⟨_, rfl⟩ | exact Dr.step ⟨_, rfl⟩ _⟩
          by_cases hjk : j = k
          · rw [hjk, hky.out]; intro e; exact HX.out (Option.some.inj e).symm
          · exact hall.out j (by omega)
        case measure => simp [intOf]; omega
    · go_wp2
      go_ret
      refine ⟨-1, rfl, by omega, by omega, Lib.hid ⟨fun h => by omega, fun h => ?_⟩, by first | exact ⟨_, rfl⟩ | exact Dr.step ⟨_, rfl⟩ _⟩
      obtain ⟨j, hj⟩ := List.getElem?_of_mem h
      have hjl : j < l.length := by rcases Nat.lt_or_ge j l.length with h | h; exact h; rw [List.getElem?_eq_none h] at hj; cases hj
      exact absurd hj (hall.out j (by omega))
theorem contains_any (v : Value) (l : List Int) (x : Int) (w : World) (h : Ints w v l) (hx : -9223372036854775808 ≤ x ∧ x ≤ 9223372036854775807) :
    Calls Try.prog 70 #[v, .int .i64 x] w fun e w' => e = .returned (.bool (memB l x)) ∧ Dr w w' := by
  go_enter Try.func70, Try.ntmps70
  go_wp2_with fail
  refine Calls.mono (index_any v l x _ h hx) ?_
  rintro e w1 ⟨r, rfl, r1, r2, HR, D⟩
  go_wp2
  go_ret
  refine ⟨ret_bool ?_, D⟩
  unfold memB; rw [decide_eq_decide]; exact HR.out
end Go.Proofs.Ytknodcaknopcnaa
