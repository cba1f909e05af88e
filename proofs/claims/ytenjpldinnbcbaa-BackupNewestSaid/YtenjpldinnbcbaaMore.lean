/- More on rows of bytes in memory: parts at a place, what is kept, operations under a guard. Over any program. -/
import Derived.Test.YtenjpldinnbcbaaRowOwn
import Derived.Test.YtenjpldinnbcbaaNum
namespace Go.Proofs.Ytenjpldinnbcbaa
open Go.RowKit
set_option linter.unusedVariables false
set_option linter.unusedSimpArgs false

theorem Byt.shapeN {w : World} {v : Value} {l : List Nat} {n : Nat} (h : Byt w v l) (hn : l.length = n) : ∃ ao cap, v = .slice ao n cap ∧ n ≤ cap ∧ cap ≤ 9223372036854775807 := hn ▸ h.shape
/-- the part at a place: its value, and what it reads as -/
theorem Parts.get {w : World} {ao : Option Addr} {n cap : Nat} {ls : List (List Nat)} (h : Parts w (.slice ao n cap) ls) {k : Nat} (hk : k < ls.length) :
    ∃ b off c p, ao = some ⟨b, off, none⟩ ∧ w.cell? ⟨b, off + k, none⟩ = some c ∧ Hid (ls[k]? = some p) ∧ Byt w c p := by
  obtain ⟨ao', cap', cs, e, h1, h2, h0, hA, hl, hB⟩ := h
  cases e
  obtain ⟨b, off, c, rfl, hc, hck⟩ := hA.cell (k := k) (by rw [hl]; exact hk)
  obtain ⟨c', hc', hby⟩ := hB k hk
  have e : c = c' := Option.some.inj (hck.symm.trans hc')
  subst e
  exact ⟨b, off, c, _, rfl, hc, getD_get _ hk, hby⟩
theorem Parts.shape {w : World} {v : Value} {ls : List (List Nat)} (h : Parts w v ls) : ∃ ao cap, v = .slice ao ls.length cap ∧ ls.length ≤ cap ∧ cap ≤ 9223372036854775807 := by
  obtain ⟨ao, cap, cs, rfl, h1, h2, _⟩ := h
  exact ⟨ao, cap, rfl, h1, h2⟩
/-- the part at a place, its cell in a later world, what it reads as in the first -/
theorem Parts.getUp {w w' : World} {ao : Option Addr} {n cap : Nat} {ls : List (List Nat)} (h : Parts w (.slice ao n cap) ls) (hw : Below w.heap.size w w') {k : Nat} (hk : k < ls.length) :
    ∃ b off c p, ao = some ⟨b, off, none⟩ ∧ w'.cell? ⟨b, off + k, none⟩ = some c ∧ Hid (ls[k]? = some p) ∧ Byt w c p := by
  obtain ⟨b, off, c, p, rfl, h1, h2, h3⟩ := h.get hk
  exact ⟨b, off, c, p, rfl, by rw [hw.cell (World.block_lt_of_cell? _ _ h1)]; exact h1, h2, h3⟩
theorem Byt.get {w : World} {ao : Option Addr} {n cap : Nat} {l : List Nat} (h : Byt w (.slice ao n cap) l) {k : Nat} (hk : k < n) :
    ∃ b off x, ao = some ⟨b, off, none⟩ ∧ w.cell? ⟨b, off + k, none⟩ = some (.int .u8 (x : Nat)) ∧ Hid (l[k]? = some x) ∧ x < 256 := by
  obtain ⟨ao', cap', e, h1, h2, h0, h3, hA⟩ := h
  cases e
  exact hA.byte h3 hk
theorem Parts.takeI {w : World} {ao : Option Addr} {n cap k : Nat} {ls : List (List Nat)} (h : Parts w (.slice ao n cap) ls) (hk : k ≤ n) : Parts w (.slice ao k cap) (ls.take k) := by
  obtain ⟨ao', cap', cs, e, h1, h2, h0, hA, hl, hB⟩ := h
  cases e
  have e : k = (ls.take k).length := by rw [List.length_take]; omega
  refine ⟨ao, cap, cs.take k, by rw [← e], by omega, by omega, h0, hA.take k, by rw [List.length_take, List.length_take, hl], fun i hi => ?_⟩
  rw [List.length_take] at hi
  obtain ⟨c, hc, hb⟩ := hB i (by omega)
  refine ⟨c, by rw [List.getElem?_take_of_lt (by omega)]; exact hc, ?_⟩
  have e2 : (ls.take k).getD i [] = ls.getD i [] := by simp [List.getD, List.getElem?_take_of_lt (show i < k by omega)]
  rw [e2]; exact hb
theorem Parts.dropI {w : World} {b off n cap k : Nat} {ls : List (List Nat)} (h : Parts w (.slice (some ⟨b, off, none⟩) n cap) ls) (hk : k ≤ n) : Parts w (.slice (some ⟨b, off + k, none⟩) (n - k) (cap - k)) (ls.drop k) := by
  obtain ⟨ao', cap', cs, e, h1, h2, h0, hA, hl, hB⟩ := h
  cases e
  have e : ls.length - k = (ls.drop k).length := by rw [List.length_drop]
  refine ⟨_, cap - k, cs.drop k, by rw [e], by omega, by omega, (fun e => by cases e), hA.drop k, by rw [List.length_drop, List.length_drop, hl], fun i hi => ?_⟩
  rw [List.length_drop] at hi
  obtain ⟨c, hc, hb⟩ := hB (k + i) (by omega)
  refine ⟨c, by rw [List.getElem?_drop]; exact hc, ?_⟩
  have e2 : (ls.drop k).getD i [] = ls.getD (k + i) [] := by simp [List.getD, List.getElem?_drop]
  rw [e2]; exact hb
/-- an operation that is wanted may be met as one without a guard -/
theorem wpList_unguard {P : Program} {ops : Array Oper} {Q : Exit → Act → World → Prop} {a : Act} {w : World} {rest : List Oper} {o : Oper} (hw : Region.wanted o (yielded ops a.tmps) = true)
    (h : wpList P ops Q ({ o with guard := none } :: rest) a w) : wpList P ops Q (o :: rest) a w := by
  unfold wpList at h ⊢
  rw [if_pos hw]
  rw [if_pos (by simp [Region.wanted])] at h
  exact h
theorem Own.keep {w w' : World} {base : Nat} {v : Value} {l : List Nat} {row : Option Nat} (h : Own w base v l) (hg : w.grownBy w' row) (hne : ∀ g, v.ownBlock = some g → row ≠ some g) : Own w' base v l := by
  refine ⟨h.1, h.2.kept hg ?_⟩
  cases hv : v.ownBlock with
  | none => exact .inl rfl
  | some g => exact .inr fun e => hne g hv e.symm
theorem OwnP.apart {w w' : World} {base : Nat} {v u : Value} {ls : List (List Nat)} (h : OwnP w base v ls) (hg : w.grownBy w' u.ownBlock) (hu : ∀ g, u.ownBlock = some g → g < base) : OwnP w' base v ls := by
  obtain ⟨cs, h1, h2⟩ := h
  refine ⟨cs, h1.kept hg ?_, fun i hi => let ⟨c, e, hc⟩ := h2 i hi; ⟨c, e, hc.apart hg hu⟩⟩
  cases hv : v.ownBlock with
  | none => exact .inl rfl
  | some g =>
    right
    intro e
    have h3 := (h1.lt g hv).1
    have h4 := hu g e.symm
    omega
/-- the row at a place of rows that are owned: its value and its cell -/
theorem OwnP.get {w : World} {base n cap : Nat} {ao : Option Addr} {ls : List (List Nat)} (h : OwnP w base (.slice ao n cap) ls) {k : Nat} (hk : k < ls.length) :
    ∃ b off c p, ao = some ⟨b, off, none⟩ ∧ w.cell? ⟨b, off + k, none⟩ = some c ∧ Hid (ls[k]? = some p) ∧ Own w base c p := by
  obtain ⟨cs, h1, h2⟩ := h
  obtain ⟨c, hc, ho⟩ := h2 k hk
  rcases h1.2 with ⟨e, h3⟩ | ⟨g, cap', cur, e, h3, hg, r1, r2, r3, r4⟩
  · omega
  · cases e
    refine ⟨g, 0, c, _, rfl, ?_, getD_get _ hk, ho⟩
    rw [Nat.zero_add, h1.cellAt k (by omega)]
    exact hc
end Go.Proofs.Ytenjpldinnbcbaa
