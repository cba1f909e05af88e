/- A law's arguments opened: slices of bytes, of whole numbers, of bools, of slices of bytes, as the walks read them. Over any program. -/
import Derived.Test.YtenjpldinnbcbaaNumL
import Derived.ProofKit
import Derived.SizedLaws
import Derived.Deep.Matrix
import Derived.Deep.Grids
namespace Go.Proofs.Ytenjpldinnbcbaa
open Go.RowKit Go.ChangeShapes Go.WideShapes Go.Deep
set_option linter.unusedVariables false
set_option linter.unusedSimpArgs false

def i64v (x : Int) : Value := .int .i64 x
def boolv (b : Bool) : Value := .bool b
def Ints (w : World) (v : Value) (l : List Int) : Prop :=
  ∃ ao cap, v = .slice ao l.length cap ∧ l.length ≤ cap ∧ cap ≤ maxLen ∧ (ao = none → cap = 0) ∧ (∀ x ∈ l, -9223372036854775808 ≤ x ∧ x ≤ 9223372036854775807) ∧ At w ao (l.map i64v)
def Bools (w : World) (v : Value) (l : List Bool) : Prop :=
  ∃ ao cap, v = .slice ao l.length cap ∧ l.length ≤ cap ∧ cap ≤ maxLen ∧ (ao = none → cap = 0) ∧ At w ao (l.map boolv)
theorem Ints.up {a b : World} {v : Value} {l : List Int} (h : Ints a v l) (hb : Below a.heap.size a b) : Ints b v l := by
  obtain ⟨ao, cap, rfl, h1, h2, h0, h3, h4⟩ := h
  exact ⟨ao, cap, rfl, h1, h2, h0, h3, h4.below hb (Nat.le_refl _)⟩
theorem Bools.up {a b : World} {v : Value} {l : List Bool} (h : Bools a v l) (hb : Below a.heap.size a b) : Bools b v l := by
  obtain ⟨ao, cap, rfl, h1, h2, h0, h4⟩ := h
  exact ⟨ao, cap, rfl, h1, h2, h0, h4.below hb (Nat.le_refl _)⟩
theorem addr_at {w : World} {a : Addr} {n : Nat} {f : Nat → Value} (h : ∀ i, i < n → w.cell? (a.add i) = some (f i)) (hn : 0 < n) : ∃ b off, a = ⟨b, off, none⟩ ∧ b < w.heap.size ∧ ∀ i, i < n → w.cell? ⟨b, off + i, none⟩ = some (f i) := by
  have h0 := h 0 hn
  rw [show a.add 0 = a from rfl] at h0
  obtain ⟨b, off, spot⟩ := a
  cases spot with
  | some s => simp [World.cell?] at h0; split at h0 <;> simp at h0
  | none => exact ⟨b, off, rfl, block_lt_of_cell h0, fun i hi => by rw [← WideShapes.add_plain]; exact h i hi⟩
theorem at_list {w : World} {a : Addr} {l : List Value} (h : ∀ i, i < l.length → w.cell? (a.add i) = l[i]?) : At w (some a) l := by
  by_cases hn : l = []
  · exact .inl hn
  · have hpos : 0 < l.length := by cases l <;> simp_all
    obtain ⟨b, off, rfl, hlt, hc⟩ := addr_at (f := fun i => l.getD i undef) (n := l.length) (fun i hi => by rw [h i hi]; simp [List.getD, hi]) hpos
    exact .inr ⟨b, off, rfl, hlt, fun i hi => by rw [hc i hi]; simp [List.getD, hi]⟩
section
variable {H : Type} {enc : TypeId × Value → H} {P : Program} {W : World} {t e q : TypeId} {v : Value} {d : DataW H} {p : List MemPlace} {base : Nat} {r : Reach} {ts : List TypeId} {ds : List (DataW H)} {j : Nat}
theorem open_byt (ht : P.underlying t = some (.slice e)) (he : P.underlying e = some (.int .u8)) (hc : P.cellsOf e = 1) (hby : P.bytesOf e = 1) (hsz : (DataW.weightsEach P ts ds).all (· ≤ reachBytes) = true) (htj : ts[j]? = some t) (hdj : ds[j]? = some d)
    (hval : Value.okWide P W r base t v) (h : DataW.Trod enc P W 0 (fun _ => true) true t v d p) : ∃ l, Byt W v l ∧ l.length ≤ 140737488351232 := by
  obtain ⟨a0, len, cap, rfl⟩ := okWide_slice ht hval
  obtain ⟨fuel, hf⟩ := h
  rcases open_ints ht he hc hf with ⟨hcs, hx⟩ | ⟨a, len', cap', zs, hcs, _, hl, hm, hz, hx, hcell, hwz⟩
  · simp only [Value.cells, List.cons.injEq, Value.slice.injEq, and_true] at hcs
    obtain ⟨rfl, rfl, rfl⟩ := hcs
    exact ⟨[], Byt.nil _, by simp⟩
  · simp only [Value.cells, List.cons.injEq, Value.slice.injEq, and_true] at hcs
    obtain ⟨rfl, rfl, rfl⟩ := hcs
    simp only [if_true] at hz
    have hle : (zs.take len).length = len := by simp [hz]; omega
    have hb : ∀ n ∈ zs, 0 ≤ n ∧ n ≤ 255 := fun n hn => by simpa [Lit.wf, IntKind.min, IntKind.max, IntKind.signed, IntKind.bits] using hwz n hn
    have hll : ((zs.take len).map Int.toNat).length = len := by rw [List.length_map, hle]
    refine ⟨(zs.take len).map Int.toNat, ?_, ?_⟩
    · refine Byt.mk hll.symm hl hm (fun e => by cases e) (fun x hx => ?_) (at_list fun i hi => ?_)
      · obtain ⟨n, hn, rfl⟩ := List.mem_map.1 hx
        have := hb n (List.mem_of_mem_take hn)
        omega
      · have hi' : i < len := by rw [List.length_map, hll] at hi; exact hi
        rw [hcell i (by omega)]
        have hzi : i < zs.length := by omega
        have := hb zs[i] (List.getElem_mem hzi)
        simp [List.getD, hi', hzi, u8v]
        omega
    · simp only [Prod.mk.injEq] at hx
      have := sized_slice hsz htj (hdj.trans (congrArg some hx.1)) ht
      rw [hby] at this
      simp only [lits, List.length_map, List.length_take, List.length_drop, reachBytes] at this
      rw [hll]; omega
theorem open_ints64 (ht : P.underlying t = some (.slice e)) (he : P.underlying e = some (.int .i64)) (hc : P.cellsOf e = 1) (hby : P.bytesOf e = 8) (hsz : (DataW.weightsEach P ts ds).all (· ≤ reachBytes) = true) (htj : ts[j]? = some t) (hdj : ds[j]? = some d)
    (hval : Value.okWide P W r base t v) (h : DataW.Trod enc P W 0 (fun _ => true) true t v d p) : ∃ l, Ints W v l ∧ l.length * 8 ≤ 140737488351232 := by
  obtain ⟨a0, len, cap, rfl⟩ := okWide_slice ht hval
  obtain ⟨fuel, hf⟩ := h
  rcases open_ints ht he hc hf with ⟨hcs, hx⟩ | ⟨a, len', cap', zs, hcs, _, hl, hm, hz, hx, hcell, hwz⟩
  · simp only [Value.cells, List.cons.injEq, Value.slice.injEq, and_true] at hcs
    obtain ⟨rfl, rfl, rfl⟩ := hcs
    exact ⟨[], ⟨none, 0, rfl, Nat.le_refl _, by simp [maxLen], fun _ => rfl, (fun x hx => by cases hx), .inl rfl⟩, by simp⟩
  · simp only [Value.cells, List.cons.injEq, Value.slice.injEq, and_true] at hcs
    obtain ⟨rfl, rfl, rfl⟩ := hcs
    simp only [if_true] at hz
    have hle : (zs.take len).length = len := by simp [hz]; omega
    have hb : ∀ n ∈ zs, -9223372036854775808 ≤ n ∧ n ≤ 9223372036854775807 := fun n hn => by simpa [Lit.wf, IntKind.min, IntKind.max, IntKind.signed, IntKind.bits] using hwz n hn
    refine ⟨zs.take len, ?_, ?_⟩
    · refine ⟨some a, cap, by rw [hle], by omega, hm, (fun e => by cases e), (fun x hx => hb x (List.mem_of_mem_take hx)), at_list fun i hi => ?_⟩
      have hi' : i < len := by rw [List.length_map, hle] at hi; exact hi
      rw [hcell i (by omega)]
      have hzi : i < zs.length := by omega
      simp [List.getD, hi', hzi, i64v]
    · simp only [Prod.mk.injEq] at hx
      have := sized_slice hsz htj (hdj.trans (congrArg some hx.1)) ht
      rw [hby] at this
      simp only [lits, List.length_map, List.length_take, List.length_drop, reachBytes] at this
      rw [hle]; omega
theorem open_boolv (ht : P.underlying t = some (.slice e)) (he : P.underlying e = some .bool) (hc : P.cellsOf e = 1)
    (hval : Value.okWide P W r base t v) (h : DataW.Trod enc P W 0 (fun _ => true) true t v d p) : ∃ l, Bools W v l := by
  obtain ⟨a0, len, cap, rfl⟩ := okWide_slice ht hval
  obtain ⟨fuel, hf⟩ := h
  rcases open_bools ht he hc hf with ⟨hcs, hx⟩ | ⟨a, len', cap', B, hcs, _, hl, hm, hx, hcell⟩
  · simp only [Value.cells, List.cons.injEq, Value.slice.injEq, and_true] at hcs
    obtain ⟨rfl, rfl, rfl⟩ := hcs
    exact ⟨[], ⟨none, 0, rfl, Nat.le_refl _, by simp [maxLen], fun _ => rfl, .inl rfl⟩⟩
  · simp only [Value.cells, List.cons.injEq, Value.slice.injEq, and_true] at hcs
    obtain ⟨rfl, rfl, rfl⟩ := hcs
    refine ⟨(List.range len).map B, ⟨some a, cap, by simp, by simpa using hl, hm, (fun e => by cases e), at_list fun i hi => ?_⟩⟩
    have hi' : i < len := by simpa using hi
    rw [hcell i (by omega)]
    simp [hi', boolv]
theorem open_parts (ht : P.underlying t = some (.slice e)) (he : P.underlying e = some (.slice q)) (hq : P.underlying q = some (.int .u8)) (ce : P.cellsOf e = 1) (cq : P.cellsOf q = 1) (hby : P.bytesOf e = 24) (hsz : (DataW.weightsEach P ts ds).all (· ≤ reachBytes) = true) (htj : ts[j]? = some t) (hdj : ds[j]? = some d)
    (hval : Value.okWide P W r base t v) (h : DataW.Trod enc P W 0 (fun _ => true) true t v d p) : ∃ ls, Parts W v ls ∧ ls.length * 24 ≤ 140737488351232 := by
  obtain ⟨a0, len, cap, rfl⟩ := okWide_slice ht hval
  obtain ⟨fuel, hf⟩ := h
  rcases open_int_rows ht he hq ce cq hf with ⟨hcs, hx⟩ | ⟨a, len', cap', A, L, C, Z, hcs, _, hl, hm, hx, hr⟩
  · simp only [Value.cells, List.cons.injEq, Value.slice.injEq, and_true] at hcs
    obtain ⟨rfl, rfl, rfl⟩ := hcs
    exact ⟨[], Parts.nil _, by simp⟩
  · simp only [Value.cells, List.cons.injEq, Value.slice.injEq, and_true] at hcs
    obtain ⟨rfl, rfl, rfl⟩ := hcs
    let row := fun i => ((Z i).take (L i)).map Int.toNat
    have hrow : ∀ i, i < cap → Byt W (.slice (A i) (L i) (C i)) (row i) := by
      intro i hi
      obtain ⟨h1, h2, h3, h4, h5, h6, h7⟩ := hr i hi
      have hb : ∀ n ∈ Z i, 0 ≤ n ∧ n ≤ 255 := fun n hn => by simpa [Lit.wf, IntKind.min, IntKind.max, IntKind.signed, IntKind.bits] using h5 n hn
      have hll : (row i).length = L i := by simp [row]; omega
      refine Byt.mk hll.symm h2 h3 h6 (fun x hx => ?_) ?_
      · obtain ⟨n, hn, rfl⟩ := List.mem_map.1 hx
        have := hb n (List.mem_of_mem_take hn)
        omega
      · cases hA : A i with
        | none =>
          have := h6 hA
          exact .inl (by have : (row i).length = 0 := by omega
                         simp [List.eq_nil_of_length_eq_zero this])
        | some a' =>
          refine at_list fun c hc => ?_
          have hc' : c < L i := by rw [List.length_map, hll] at hc; exact hc
          have hz : c < (Z i).length := by omega
          rw [(h7 a' hA).2 c (by omega)]
          have := hb (Z i)[c] (List.getElem_mem hz)
          simp [row, List.getD, hc', hz, u8v]
          omega
    refine ⟨(List.range len).map row, ⟨some a, cap, (List.range len).map (fun i => .slice (A i) (L i) (C i)), by simp, by simpa using hl, hm, (fun e => by cases e), at_list fun i hi => ?_, by simp, fun i hi => ?_⟩, ?_⟩
    · have hi' : i < len := by simpa using hi
      rw [(hr i (by omega)).1]
      simp [hi']
    · have hi' : i < len := by simpa using hi
      refine ⟨.slice (A i) (L i) (C i), by simp [hi'], ?_⟩
      have : ((List.range len).map row).getD i [] = row i := by simp [List.getD, hi']
      rw [this]
      exact hrow i (by omega)
    · simp only [Prod.mk.injEq] at hx
      have := sized_slice hsz htj (hdj.trans (congrArg some hx.1)) ht
      rw [hby] at this
      simp only [List.length_map, List.length_range, reachBytes] at this
      simp only [List.length_map, List.length_range]; omega
end
end Go.Proofs.Ytenjpldinnbcbaa
