/- Merged: More, Fr. -/
import Derived.Test.YtenjpldinnbcbaaRowOwn
import Derived.Test.YtenjpldinnbcbaaNumL
import Derived.Deep.MidRow
import Derived.Deep.WholeRow
import Derived.Deep.Upon
/- More on rows of bytes in memory: parts at a place, what is kept, operations under a guard. Over any program. -/

namespace Go.Proofs.Ytenjpldinnbcbaa
open Go.RowKit
set_option linter.unusedVariables false
set_option linter.unusedSimpArgs false

theorem Byt.shapeN {w : World} {v : Value} {l : List Nat} {n : Nat} (h : Byt w v l) (hn : l.length = n) : ∃ ao cap, v = .slice ao n cap ∧ n ≤ cap ∧ cap ≤ 9223372036854775807 := hn ▸ h.shape
/-- the part at a place: its value, and what it reads as -/
theorem Parts.get {w : World} {ao : Option Addr} {n cap : Nat} {ls : List (List Nat)} (h : Parts w (.slice ao n cap) ls) {k : Nat} (hk : k < ls.length) :
    ∃ b off c p, ao = some ⟨b, off, none⟩ ∧ w.cell? ⟨b, off + k, none⟩ = some c ∧ Hid (ls[k]? = some p) ∧ Byt w c p := by
  obtain ⟨ao', cap', cs, e, h1, h2, h0, hA, hl, hB⟩ := h
  cases e
  obtain ⟨b, off, c, rfl, hc, hck⟩ := hA.cell (k := k) (by rw [hl]; exact hk)
  obtain ⟨c', hc', hby⟩ := hB k hk
  have e : c = c' := Option.some.inj (hck.symm.trans hc')
  subst e
  exact ⟨b, off, c, _, rfl, hc, getD_get _ hk, hby⟩
theorem Parts.shape {w : World} {v : Value} {ls : List (List Nat)} (h : Parts w v ls) : ∃ ao cap, v = .slice ao ls.length cap ∧ ls.length ≤ cap ∧ cap ≤ 9223372036854775807 := by
  obtain ⟨ao, cap, cs, rfl, h1, h2, _⟩ := h
  exact ⟨ao, cap, rfl, h1, h2⟩
/-- the part at a place, its cell in a later world, what it reads as in the first -/
theorem Parts.getUp {w w' : World} {ao : Option Addr} {n cap : Nat} {ls : List (List Nat)} (h : Parts w (.slice ao n cap) ls) (hw : Below w.heap.size w w') {k : Nat} (hk : k < ls.length) :
    ∃ b off c p, ao = some ⟨b, off, none⟩ ∧ w'.cell? ⟨b, off + k, none⟩ = some c ∧ Hid (ls[k]? = some p) ∧ Byt w c p := by
  obtain ⟨b, off, c, p, rfl, h1, h2, h3⟩ := h.get hk
  exact ⟨b, off, c, p, rfl, by rw [hw.cell (World.block_lt_of_cell? _ _ h1)]; exact h1, h2, h3⟩
theorem Byt.get {w : World} {ao : Option Addr} {n cap : Nat} {l : List Nat} (h : Byt w (.slice ao n cap) l) {k : Nat} (hk : k < n) :
    ∃ b off x, ao = some ⟨b, off, none⟩ ∧ w.cell? ⟨b, off + k, none⟩ = some (.int .u8 (x : Nat)) ∧ Hid (l[k]? = some x) ∧ x < 256 := by
  obtain ⟨ao', cap', e, h1, h2, h0, h3, hA⟩ := h
  cases e
  exact hA.byte h3 hk
theorem Parts.takeI {w : World} {ao : Option Addr} {n cap k : Nat} {ls : List (List Nat)} (h : Parts w (.slice ao n cap) ls) (hk : k ≤ n) : Parts w (.slice ao k cap) (ls.take k) := by
  obtain ⟨ao', cap', cs, e, h1, h2, h0, hA, hl, hB⟩ := h
  cases e
  have e : k = (ls.take k).length := by rw [List.length_take]; omega
  refine ⟨ao, cap, cs.take k, by rw [← e], by omega, by omega, h0, hA.take k, by rw [List.length_take, List.length_take, hl], fun i hi => ?_⟩
  rw [List.length_take] at hi
  obtain ⟨c, hc, hb⟩ := hB i (by omega)
  refine ⟨c, by rw [List.getElem?_take_of_lt (by omega)]; exact hc, ?_⟩
  have e2 : (ls.take k).getD i [] = ls.getD i [] := by simp [List.getD, List.getElem?_take_of_lt (show i < k by omega)]
  rw [e2]; exact hb
theorem Parts.dropI {w : World} {b off n cap k : Nat} {ls : List (List Nat)} (h : Parts w (.slice (some ⟨b, off, none⟩) n cap) ls) (hk : k ≤ n) : Parts w (.slice (some ⟨b, off + k, none⟩) (n - k) (cap - k)) (ls.drop k) := by
  obtain ⟨ao', cap', cs, e, h1, h2, h0, hA, hl, hB⟩ := h
  cases e
  have e : ls.length - k = (ls.drop k).length := by rw [List.length_drop]
  refine ⟨_, cap - k, cs.drop k, by rw [e], by omega, by omega, (fun e => by cases e), hA.drop k, by rw [List.length_drop, List.length_drop, hl], fun i hi => ?_⟩
  rw [List.length_drop] at hi
  obtain ⟨c, hc, hb⟩ := hB (k + i) (by omega)
  refine ⟨c, by rw [List.getElem?_drop]; exact hc, ?_⟩
  have e2 : (ls.drop k).getD i [] = ls.getD (k + i) [] := by simp [List.getD, List.getElem?_drop]
  rw [e2]; exact hb
/-- an operation that is wanted may be met as one without a guard -/
theorem wpList_unguard {P : Program} {ops : Array Oper} {Q : Exit → Act → World → Prop} {a : Act} {w : World} {rest : List Oper} {o : Oper} (hw : Region.wanted o (yielded ops a.tmps) = true)
    (h : wpList P ops Q ({ o with guard := none } :: rest) a w) : wpList P ops Q (o :: rest) a w := by
  unfold wpList at h ⊢
  rw [if_pos hw]
  rw [if_pos (by simp [Region.wanted])] at h
  exact h
theorem Own.keep {w w' : World} {base : Nat} {v : Value} {l : List Nat} {row : Option Nat} (h : Own w base v l) (hg : w.grownBy w' row) (hne : ∀ g, v.ownBlock = some g → row ≠ some g) : Own w' base v l := by
  refine ⟨h.1, h.2.kept hg ?_⟩
  cases hv : v.ownBlock with
  | none => exact .inl rfl
  | some g => exact .inr fun e => hne g hv e.symm
theorem OwnP.apart {w w' : World} {base : Nat} {v u : Value} {ls : List (List Nat)} (h : OwnP w base v ls) (hg : w.grownBy w' u.ownBlock) (hu : ∀ g, u.ownBlock = some g → g < base) : OwnP w' base v ls := by
  obtain ⟨cs, h1, h2⟩ := h
  refine ⟨cs, h1.kept hg ?_, fun i hi => let ⟨c, e, hc⟩ := h2 i hi; ⟨c, e, hc.apart hg hu⟩⟩
  cases hv : v.ownBlock with
  | none => exact .inl rfl
  | some g =>
    right
    intro e
    have h3 := (h1.lt g hv).1
    have h4 := hu g e.symm
    omega
/-- the row at a place of rows that are owned: its value and its cell -/
theorem OwnP.get {w : World} {base n cap : Nat} {ao : Option Addr} {ls : List (List Nat)} (h : OwnP w base (.slice ao n cap) ls) {k : Nat} (hk : k < ls.length) :
    ∃ b off c p, ao = some ⟨b, off, none⟩ ∧ w.cell? ⟨b, off + k, none⟩ = some c ∧ Hid (ls[k]? = some p) ∧ Own w base c p := by
  obtain ⟨cs, h1, h2⟩ := h
  obtain ⟨c, hc, ho⟩ := h2 k hk
  rcases h1.2 with ⟨e, h3⟩ | ⟨g, cap', cur, e, h3, hg, r1, r2, r3, r4⟩
  · omega
  · cases e
    refine ⟨g, 0, c, _, rfl, ?_, getD_get _ hk, ho⟩
    rw [Nat.zero_add, h1.cellAt k (by omega)]
    exact hc
end Go.Proofs.Ytenjpldinnbcbaa
/- What a call may change, by blocks: all but the blocks of a set is as it was. Boxes: many cells in a block. Over any program. -/

namespace Go.Proofs.Ytenjpldinnbcbaa
open Go.RowKit
set_option linter.unusedVariables false
set_option linter.unusedSimpArgs false

/-- the blocks that were, but those of S, are as they were -/
structure Fr (S : Nat → Prop) (w w' : World) : Prop where
  os : w'.os = w.os
  tape : w'.tape = w.tape
  output : w'.output = w.output
  size : w.heap.size ≤ w'.heap.size
  block : ∀ k, k < w.heap.size → ¬ S k → w'.heap[k]? = w.heap[k]?
theorem Fr.refl (S : Nat → Prop) (w : World) : Fr S w w := ⟨rfl, rfl, rfl, Nat.le_refl _, fun _ _ _ => rfl⟩
theorem Fr.trans {S : Nat → Prop} {a b c : World} (h : Fr S a b) (k : Fr S b c) : Fr S a c :=
  ⟨k.os.trans h.os, k.tape.trans h.tape, k.output.trans h.output, Nat.le_trans h.size k.size, fun i hi hs => (k.block i (Nat.lt_of_lt_of_le hi h.size) hs).trans (h.block i hi hs)⟩
/-- what is changed second may lie in new blocks -/
theorem Fr.transN {S T : Nat → Prop} {a b c : World} (h : Fr S a b) (k : Fr T b c) (ht : ∀ i, T i → S i ∨ a.heap.size ≤ i) : Fr S a c :=
  ⟨k.os.trans h.os, k.tape.trans h.tape, k.output.trans h.output, Nat.le_trans h.size k.size, fun i hi hs => (k.block i (Nat.lt_of_lt_of_le hi h.size) (fun e => by rcases ht i e with h1 | h1; exact hs h1; omega)).trans (h.block i hi hs)⟩
theorem Fr.mono {S T : Nat → Prop} {a b : World} (h : Fr S a b) (ht : ∀ i, S i → T i) : Fr T a b := ⟨h.os, h.tape, h.output, h.size, fun i hi hs => h.block i hi (fun e => hs (ht i e))⟩
theorem Fr.below {S : Nat → Prop} {B : Nat} {a w w' : World} (h : Below B a w) (k : Fr S w w') (hB : B ≤ w.heap.size) (hS : ∀ i, S i → B ≤ i) : Below B a w' :=
  h.trans ⟨k.os, k.tape, k.output, k.size, fun i hi => k.block i (by omega) (fun e => by have := hS i e; omega)⟩
theorem Fr.of_below {S : Nat → Prop} {w w' : World} (h : Below w.heap.size w w') : Fr S w w' := ⟨h.os, h.tape, h.output, h.size, fun i hi _ => h.block i hi⟩
theorem Fr.to_below {w w' : World} (h : Fr (fun _ => False) w w') : Below w.heap.size w w' := ⟨h.os, h.tape, h.output, h.size, fun i hi => h.block i hi id⟩
theorem Fr.grown {w w' : World} {row : Option Nat} (h : w.grownBy w' row) : Fr (fun b => row = some b) w w' := ⟨h.os, h.tape, h.output, h.size, fun i hi hs => h.block i hi (fun e => hs e.symm)⟩
theorem Fr.alloc {S : Nat → Prop} (w : World) (o : Obj) : Fr S w (w.alloc o) := Fr.of_below (belA1 (belR w))
theorem Fr.drew {S : Nat → Prop} (w : World) : Fr S w w.drew := Fr.of_below (belDN (belR w) 1)
theorem Fr.cells (w : World) (g o : Nat) (vs : List Value) : Fr (fun b => b = g) w (w.setCells g o vs) := by
  have h := World.keptBut_setCells g (may := fun _ => True) vs o w (fun _ _ => trivial)
  have hs : ∀ (vs : List Value) (o : Nat) (w : World), (w.setCells g o vs).heap.size = w.heap.size ∧ (w.setCells g o vs).tape = w.tape := by
    intro vs
    induction vs with
    | nil => intro o w; exact ⟨rfl, rfl⟩
    | cons v vs ih => intro o w; rw [World.setCells]; obtain ⟨h1, h2⟩ := ih (o + 1) (w.setCell ⟨g, o, none⟩ v); exact ⟨h1.trans (by simp [World.setCell]), h2.trans rfl⟩
  exact ⟨World.os_setCells w g o vs, (hs vs o w).2, World.output_setCells w g o vs, by rw [(hs vs o w).1]; exact Nat.le_refl _, fun i hi hne => World.heap_setCells_other w g o vs hi hne⟩
theorem Fr.cell {w : World} (a : Addr) (u : Value) : Fr (fun b => b = a.block) w (w.setCell a u) := ⟨rfl, rfl, rfl, by simp [World.setCell], fun k hk hne => Below.heap_setCell _ _ _ _ hne⟩

theorem rangeAt_fr {S : Nat → Prop} {w w' : World} {b o : Nat} {cs : List Value} (h : w.rangeAt b o cs) (k : Fr S w w') (hb : ¬ S b) : w'.rangeAt b o cs := fun j v hv => by
  have h1 := h j v hv
  rw [World.cell?_of_block (k.block b (World.block_lt_of_cell? w _ h1) hb)]
  exact h1
theorem there_fr {S : Nat → Prop} {w w' : World} {b o n : Nat} (h : w.there b o n) (k : Fr S w w') (hb : ¬ S b) : w'.there b o n := fun j hj => by
  obtain ⟨h1, h2⟩ := h j hj
  obtain ⟨u, hu⟩ := Option.isSome_iff_exists.1 h1
  have hlt := World.block_lt_of_cell? w _ hu
  exact ⟨by rw [World.cell?_of_block (k.block b hlt hb)]; exact h1, by rw [World.frozen?_of_block (k.block b hlt hb)]; exact h2⟩
theorem cell_fr {S : Nat → Prop} {w w' : World} {a : Addr} {v : Value} (h : w.cell? a = some v) (k : Fr S w w') (hb : ¬ S a.block) : w'.cell? a = some v := by
  rw [World.cell?_of_block (k.block a.block (World.block_lt_of_cell? w _ h) hb)]
  exact h
theorem cell_cells {w : World} {g o b off : Nat} {vs : List Value} {v : Value} (h : w.cell? ⟨b, off, none⟩ = some v) (hne : b ≠ g) : (w.setCells g o vs).cell? ⟨b, off, none⟩ = some v := cell_fr h (Fr.cells w g o vs) hne
theorem rangeAt_cells {w : World} {g o b off : Nat} {vs cs : List Value} (h : w.rangeAt b off cs) (hne : b ≠ g) : (w.setCells g o vs).rangeAt b off cs := rangeAt_fr h (Fr.cells w g o vs) hne
theorem row_fr {S : Nat → Prop} {w w' : World} {base n size : Nat} {e : TypeId} {v : Value} {xs : List Value} (h : w.ownsRow base e size v n xs) (k : Fr S w w') (hb : ∀ g, v.ownBlock = some g → ¬ S g) : w'.ownsRow base e size v n xs := by
  obtain ⟨hl, h⟩ := h
  refine ⟨hl, ?_⟩
  rcases h with h | ⟨g, cap, cur, rfl, h1, h2, h3⟩
  · exact .inl h
  · exact .inr ⟨g, cap, cur, rfl, h1, by rw [k.block g (lt_of_block h2) (hb g rfl)]; exact h2, h3⟩
theorem Own.fr {S : Nat → Prop} {w w' : World} {base : Nat} {v : Value} {l : List Nat} (h : Own w base v l) (k : Fr S w w') (hb : ∀ g, v.ownBlock = some g → ¬ S g) : Own w' base v l := ⟨h.1, row_fr h.2 k hb⟩
theorem Byt.fr {S : Nat → Prop} {w w' : World} {v : Value} {l : List Nat} (h : Byt w v l) (k : Fr S w w') (hb : ∀ g, v.ownBlock = some g → ¬ S g) : Byt w' v l := by
  obtain ⟨ao, cap, rfl, h1, h2, h0, h3, h4⟩ := h
  refine ⟨ao, cap, rfl, h1, h2, h0, h3, ?_⟩
  rcases h4 with h4 | ⟨b, off, rfl, hlt, hc⟩
  · exact .inl h4
  · exact .inr ⟨b, off, rfl, Nat.lt_of_lt_of_le hlt k.size, fun i hi => by rw [World.cell?_of_block (k.block b hlt (hb b rfl))]; exact hc i hi⟩

/-- the cells cs lie in block b from its head, and may be written -/
structure Box (w : World) (b : Nat) (cs : List Value) : Prop where
  range : w.rangeAt b 0 cs
  there : w.there b 0 cs.length
theorem Box.fr {S : Nat → Prop} {w w' : World} {b : Nat} {cs : List Value} (h : Box w b cs) (k : Fr S w w') (hb : ¬ S b) : Box w' b cs := ⟨rangeAt_fr h.range k hb, there_fr h.there k hb⟩
theorem there_new (w : World) (c : Array Value) (t : TypeId) : (w.alloc (.cells c t)).there w.heap.size 0 c.size := by
  intro j hj
  refine ⟨?_, ?_⟩
  · rw [Nat.zero_add, cell_of_row _ _ j _ _ _ (heap_alloc_new w _), Array.getElem?_eq_getElem (by omega)]
    rfl
  · unfold World.frozen?
    show (match (w.alloc _).heap[w.heap.size]? with | some (.cells _ _ (lo, hi)) => _ | _ => _) = _
    rw [heap_alloc_new]
    simp
theorem Box.new (w : World) (cs : List Value) (t : TypeId) : Box (w.alloc (.cells cs.toArray t)) w.heap.size cs :=
  ⟨fun j v hv => by rw [Nat.zero_add, cell_of_row _ _ j _ _ _ (heap_alloc_new w _)]; simpa using hv, by simpa using there_new w cs.toArray t⟩
theorem Box.store {w : World} {b : Nat} {cs cs' : List Value} (h : Box w b cs) (hl : cs'.length = cs.length) : Box (w.setCells b 0 cs') b cs' :=
  ⟨World.rangeAt_setCells_same _ _ _ _ (hl ▸ h.there), World.there_setCells (hl ▸ h.there) _ _ _⟩
theorem Box.at {w : World} {b : Nat} {cs : List Value} (h : Box w b cs) (hb : b < w.heap.size) : At w (some ⟨b, 0, none⟩) cs :=
  .inr ⟨b, 0, rfl, hb, fun i hi => by rw [h.range i cs[i] (List.getElem?_eq_getElem hi), List.getElem?_eq_getElem hi]⟩

theorem wpList_store_new {P : Program} {ops : Array Oper} {rest : List Oper} {op : Oper} {a : Act} {W : World} {Q : Exit → Act → World → Prop} (hgd : op.guard = none) (ty : TypeId) (x y : Operand) (ho : op.op = .store ty x y)
    (g : Nat) (w : World) (hg : g = w.heap.size) (c c' : Array Value) (hx : a.eval x = .pointer (some ⟨g, 0, none⟩)) (hy : a.eval y = .agg c')
    (hW : W = w.alloc (.cells c ty)) (hi : (P.info? ty).map (·.size) = some c'.size) (hs : c.size = c'.size) (h1 : c'.all (·.oneCell') = true)
    (h : wpList P ops Q rest (a.put op.dst undef) (w.alloc (.cells c' ty))) : wpList P ops Q (op :: rest) a W :=
  wpList_plain hgd fun _ hK => by
    subst hg
    subst hW
    unfold Oper.wp execOp
    have hst := run_storeVar_new (P := P) w ty c c' hi hs h1
    simp only [ho, hx, hy, Instr.storeAt, Instr.sureAddr, Sem.run_bind, Sem.run_pure, Result.andThen_ok, hst]
    exact hK _ _ h
theorem wpList_build_as {P : Program} {ops : Array Oper} {rest : List Oper} {op : Oper} {a : Act} {w : World} {Q : Exit → Act → World → Prop} (hgd : op.guard = none) (t : TypeId) (parts : Array (Nat × Operand)) (ho : op.op = .build t parts)
    (cells : Array Value) (hb : P.built t (parts.toList.map fun (i, x) => (i, a.eval x)) = some cells) (h : wpList P ops Q rest (a.put op.dst (.agg cells)) w) : wpList P ops Q (op :: rest) a w :=
  wpList_build hgd t parts ho (by rw [Array.toList_map, hb]; rfl) (by rw [Array.toList_map, hb]; exact h)
theorem row_shape {w : World} {base n size : Nat} {e : TypeId} {v : Value} {xs : List Value} (h : w.ownsRow base e size v n xs) : ∃ ao cap, v = .slice ao n cap := by
  rcases h.2 with ⟨rfl, hn⟩ | ⟨b, cap, cur, rfl, _⟩
  · exact ⟨none, 0, by rw [hn]⟩
  · exact ⟨_, cap, rfl⟩
theorem there_frozen {w : World} {g n o : Nat} (h : w.there g 0 n) (ho : o < n) : w.frozen? ⟨g, o, none⟩ = false := by
  have := (h o ho).2
  rwa [Nat.zero_add] at this
end Go.Proofs.Ytenjpldinnbcbaa
