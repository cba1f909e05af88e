/- The walk of EraseForms (chapter 4). True at every input. -/
import Derived.Test.YtknodcaknopcnaaSameI
import Derived.Test.YtknodcaknopcnaaSameR
import Derived.Test.YtknodcaknopcnaaWk4
import Derived.Test.YtknodcaknopcnaaApp
import Derived.Deep.CutRange
namespace Go.Proofs.Ytknodcaknopcnaa
open Go.RowKit
set_option linter.unusedVariables false
set_option linter.unusedSimpArgs false
set_option maxRecDepth 100000
set_option maxHeartbeats 2000000

abbrev Quad := Value × Value × Value × Value
def qcells (t : Quad) : List Value := [t.1, t.2.1, t.2.2.1, t.2.2.2]
theorem quads_get : ∀ (T : List Quad) (k : Nat) (t : Quad), T[k]? = some t → (T.flatMap qcells)[k * 4]? = some t.1 ∧ (T.flatMap qcells)[k * 4 + 1]? = some t.2.1 ∧ (T.flatMap qcells)[k * 4 + 2]? = some t.2.2.1 ∧ (T.flatMap qcells)[k * 4 + 3]? = some t.2.2.2
  | [], k, t, h => by simp at h
  | q :: T, 0, t, h => by
    have e : q = t := by simpa using h
    subst e
    exact ⟨rfl, rfl, rfl, rfl⟩
  | q :: T, k + 1, t, h => by
    have := quads_get T k t (by simpa using h)
    rw [show (k + 1) * 4 = k * 4 + 1 + 1 + 1 + 1 by omega, show (q :: T).flatMap qcells = q.1 :: q.2.1 :: q.2.2.1 :: q.2.2.2 :: T.flatMap qcells from rfl]
    refine ⟨this.1, ?_, ?_, ?_⟩
    · rw [show k * 4 + 1 + 1 + 1 + 1 + 1 = (k * 4 + 1) + 1 + 1 + 1 + 1 by omega]; exact this.2.1
    · rw [show k * 4 + 1 + 1 + 1 + 1 + 2 = (k * 4 + 2) + 1 + 1 + 1 + 1 by omega]; exact this.2.2.1
    · rw [show k * 4 + 1 + 1 + 1 + 1 + 3 = (k * 4 + 3) + 1 + 1 + 1 + 1 by omega]; exact this.2.2.2
/-- four values, each read as a list -/
def Reads (w : World) (t : Quad) (r : List Nat × List Nat × List Nat × List Nat) : Prop := Byt w t.1 r.1 ∧ Byt w t.2.1 r.2.1 ∧ Byt w t.2.2.1 r.2.2.1 ∧ Byt w t.2.2.2 r.2.2.2
theorem Reads.up {w w' : World} {t : Quad} {r : List Nat × List Nat × List Nat × List Nat} (h : Reads w t r) (hb : Below w.heap.size w w') : Reads w' t r := ⟨h.1.up hb, h.2.1.up hb, h.2.2.1.up hb, h.2.2.2.up hb⟩
/-- a table of four values a row, in block g -/
def Table (w : World) (g : Nat) (m : Nat) (good : List Nat × List Nat × List Nat × List Nat → Prop) : Prop := g < w.heap.size ∧ ∀ k, k < m → ∃ (t : Quad) (r : List Nat × List Nat × List Nat × List Nat), w.cell? ⟨g, k * 4, none⟩ = some t.1 ∧ w.cell? ⟨g, k * 4 + 1, none⟩ = some t.2.1 ∧ w.cell? ⟨g, k * 4 + 2, none⟩ = some t.2.2.1 ∧ w.cell? ⟨g, k * 4 + 3, none⟩ = some t.2.2.2 ∧ Reads w t r ∧ good r
theorem Table.up {w w' : World} {g m : Nat} {good : List Nat × List Nat × List Nat × List Nat → Prop} (h : Table w g m good) (hb : Below w.heap.size w w') : Table w' g m good := by
  refine ⟨Nat.lt_of_lt_of_le h.1 hb.size, fun k hk => ?_⟩
  obtain ⟨t, r, h0, h1, h2, h3, h4, h5⟩ := h.2 k hk
  exact ⟨t, r, by rw [hb.cell h.1]; exact h0, by rw [hb.cell h.1]; exact h1, by rw [hb.cell h.1]; exact h2, by rw [hb.cell h.1]; exact h3, h4.up hb, h5⟩
theorem Table.mk {w : World} {T : List Quad} {cs : Array Value} {e : TypeId} {fr : Nat × Nat} {good : List Nat × List Nat × List Nat × List Nat → Prop} {g m : Nat} (hg : g = w.heap.size) (hm : m = T.length) (hc : cs.toList = T.flatMap qcells) (h : ∀ t ∈ T, ∃ r, Reads w t r ∧ good r) : Table (w.alloc (.cells cs e fr)) g m good := by
  subst hg hm
  refine ⟨by simp, fun k hk => ?_⟩
  obtain ⟨r, hr, hgd⟩ := h T[k] (List.getElem_mem hk)
  obtain ⟨h0, h1, h2, h3⟩ := quads_get T k T[k] (List.getElem?_eq_getElem hk)
  have hcell : ∀ i, (w.alloc (.cells cs e fr)).cell? ⟨w.heap.size, i, none⟩ = cs[i]? := fun i => cell_of_row _ w.heap.size i cs e fr (heap_alloc_new w _)
  refine ⟨T[k], r, ?_, ?_, ?_, ?_, hr.up (belA1 (belR _)), hgd⟩
  · rw [hcell, ← Array.getElem?_toList, hc]; exact h0
  · rw [hcell, ← Array.getElem?_toList, hc]; exact h1
  · rw [hcell, ← Array.getElem?_toList, hc]; exact h2
  · rw [hcell, ← Array.getElem?_toList, hc]; exact h3
def Good (n : Nat) (r : List Nat × List Nat × List Nat × List Nat) : Prop := Y.solveB ((2 : Nat) : Int) r.1 r.2.1 [r.2.2.1, r.2.2.2] = true ∧ Y.solveL 2 r.1 r.2.1 [r.2.2.1, r.2.2.2] = [[1, n], [3, 9]]
def Bad (r : List Nat × List Nat × List Nat × List Nat) : Prop := Y.solveB ((2 : Nat) : Int) r.1 r.2.1 [r.2.2.1, r.2.2.2] = false
theorem form_P4 : ∀ n, n < 256 → Y.P [[1, n], [3, 9]] = [2, n ^^^ 9] := by decide +kernel
theorem form_Q4 : ∀ n, n < 256 → Y.Q [[1, n], [3, 9]] = [7, n ^^^ 18] := by decide +kernel
theorem good_of {n : Nat} (hn : n < 256) {p q a b : List Nat} (hp : p = [2, n ^^^ 9] ∨ p = []) (hq : q = [7, n ^^^ 18] ∨ q = []) (ha : a = [] ∨ a = [1, n]) (hb : b = [] ∨ b = [3, 9]) (hc : (Y.missL [a, b]).length + (Y.missL [p, q]).length ≤ 2) : Good n (p, q, a, b) := by
  refine Y.solve_back (n := 2) (x := [[1, n], [3, 9]]) ⟨rfl, fun i hi => ?_⟩ ?_ ?_ (Nat.zero_lt_succ _) (by simp) (by decide) ?_ ?_ hc
  · match i, hi with
    | 0, _ => exact ha
    | 1, _ => exact hb
  · intro r hr
    simp only [List.mem_cons, List.not_mem_nil, or_false] at hr
    rcases hr with rfl | rfl <;> rfl
  · intro r hr v hv
    simp only [List.mem_cons, List.not_mem_nil, or_false] at hr
    rcases hr with rfl | rfl <;> simp only [List.mem_cons, List.not_mem_nil, or_false] at hv <;> omega
  · rw [form_P4 n hn]; exact hp
  · rw [form_Q4 n hn]; exact hq
theorem Table.get {w : World} {g m : Nat} {good : List Nat × List Nat × List Nat × List Nat → Prop} (h : Table w g m good) {k : Nat} (hk : k < m) : ∃ t0 t1 t2 t3 r0 r1 r2 r3, w.cell? ⟨g, k * 4, none⟩ = some t0 ∧ w.cell? ⟨g, k * 4 + 1, none⟩ = some t1 ∧ w.cell? ⟨g, k * 4 + 2, none⟩ = some t2 ∧ w.cell? ⟨g, k * 4 + 3, none⟩ = some t3 ∧ Byt w t0 r0 ∧ Byt w t1 r1 ∧ Byt w t2 r2 ∧ Byt w t3 r3 ∧ good (r0, r1, r2, r3) := by
  obtain ⟨t, r, h0, h1, h2, h3, h4, h5⟩ := h.2 k hk
  exact ⟨_, _, _, _, _, _, _, _, h0, h1, h2, h3, h4.1, h4.2.1, h4.2.2.1, h4.2.2.2, h5⟩
attribute [local irreducible] Go.Calls Byt Own Parts RowB OwnN Table
theorem eraseForms_law (n' : Int) (hn' : 0 ≤ n' ∧ n' ≤ 255) (W : World) :
    Calls Try.prog 3 #[.int .u8 n'] W fun e W' => e = .returned (.bool true) ∧ Below W.heap.size W W' := by
  obtain ⟨j0, hj, hy0, hy1, hy2⟩ := info_parts uint8_info
  obtain ⟨n, rfl⟩ := Int.eq_ofNat_of_zero_le hn'.1
  have hn : n < 256 := by omega
  have hx9 : bits .xor .u8 (n : Int) 9 = ((n ^^^ 9 : Nat) : Int) := bx8 (b := 9) hn (by decide)
  have hx18 : bits .xor .u8 (n : Int) 18 = ((n ^^^ 18 : Nat) : Int) := bx8 (b := 18) hn (by decide)
  have h98 : n ^^^ 9 < 256 := G.xor8 hn (by decide)
  have h188 : n ^^^ 18 < 256 := G.xor8 hn (by decide)
  obtain ⟨x, hx⟩ : ∃ x, x = n ^^^ 9 := ⟨_, rfl⟩
  obtain ⟨y, hy⟩ : ∃ y, y = n ^^^ 18 := ⟨_, rfl⟩
  rw [← hx] at hx9 h98
  rw [← hy] at hx18 h188
  have HX := Lib.hid hx
  have HY := Lib.hid hy
  have HN := Lib.hid hn
  have H9 := Lib.hid h98
  have H18 := Lib.hid h188
  clear hx hy hn hn' h98 h188
  go_enter Try.func3, Try.ntmps3
  go_wp2_with fail
  obtain ⟨w4, hw4⟩ : ∃ w4 : World, w4 = (((W.alloc (.cells #[.int .u8 1, .int .u8 n] 5)).alloc (.cells #[.int .u8 3, .int .u8 9] 5)).alloc (.cells #[.int .u8 2, .int .u8 x] 5)).alloc (.cells #[.int .u8 7, .int .u8 y] 5) := ⟨_, rfl⟩
  have RA : Byt w4 (.slice (some ⟨W.heap.size, 0, none⟩) 2 2) [1, n] := by rw [hw4]; exact (Byt.lit W #[.int .u8 1, .int .u8 n] _ [1, n] rfl rfl rfl (by have := HN.out; simp; omega) (by simp)).up (belA3 (belR _))
  have RB : Byt w4 (.slice (some ⟨W.heap.size + 1, 0, none⟩) 2 2) [3, 9] := by rw [hw4]; exact (Byt.lit _ #[.int .u8 3, .int .u8 9] _ [3, 9] (by simp) rfl rfl (by simp) (by simp)).up (belA2 (belR _))
  have RP : Byt w4 (.slice (some ⟨W.heap.size + 1 + 1, 0, none⟩) 2 2) [2, x] := by rw [hw4]; exact (Byt.lit _ #[.int .u8 2, .int .u8 x] _ [2, x] (by simp) rfl rfl (by have := H9.out; simp; omega) (by simp)).up (belA1 (belR _))
  have RQ : Byt w4 (.slice (some ⟨W.heap.size + 1 + 1 + 1, 0, none⟩) 2 2) [7, y] := by rw [hw4]; exact (Byt.lit _ #[.int .u8 7, .int .u8 y] _ [7, y] (by simp) rfl rfl (by have := H18.out; simp; omega) (by simp))
  have hb4 : Below W.heap.size W w4 := by rw [hw4]; exact belA4 (belR _)
  have hs4 : w4.heap.size = W.heap.size + 1 + 1 + 1 + 1 := by rw [hw4]; simp
  rw [← hw4]
  obtain ⟨w5, hw5⟩ : ∃ w5 : World, w5 = w4.alloc (.cells #[(.slice (some ⟨W.heap.size + 1 + 1, 0, none⟩) 2 2), (.slice (some ⟨W.heap.size + 1 + 1 + 1, 0, none⟩) 2 2), (.slice (some ⟨W.heap.size, 0, none⟩) 2 2), (.slice (some ⟨W.heap.size + 1, 0, none⟩) 2 2), (.slice (some ⟨W.heap.size + 1 + 1, 0, none⟩) 2 2), (.slice (some ⟨W.heap.size + 1 + 1 + 1, 0, none⟩) 2 2), (.slice (some ⟨W.heap.size, 0, none⟩) 2 2), (.slice none 0 0), (.slice (some ⟨W.heap.size + 1 + 1, 0, none⟩) 2 2), (.slice (some ⟨W.heap.size + 1 + 1 + 1, 0, none⟩) 2 2), (.slice none 0 0), (.slice (some ⟨W.heap.size + 1, 0, none⟩) 2 2), (.slice (some ⟨W.heap.size + 1 + 1, 0, none⟩) 2 2), (.slice (some ⟨W.heap.size + 1 + 1 + 1, 0, none⟩) 2 2), (.slice none 0 0), (.slice none 0 0), (.slice (some ⟨W.heap.size + 1 + 1, 0, none⟩) 2 2), (.slice none 0 0), (.slice (some ⟨W.heap.size, 0, none⟩) 2 2), (.slice none 0 0), (.slice (some ⟨W.heap.size + 1 + 1, 0, none⟩) 2 2), (.slice none 0 0), (.slice none 0 0), (.slice (some ⟨W.heap.size + 1, 0, none⟩) 2 2), (.slice none 0 0), (.slice (some ⟨W.heap.size + 1 + 1 + 1, 0, none⟩) 2 2), (.slice (some ⟨W.heap.size, 0, none⟩) 2 2), (.slice none 0 0), (.slice none 0 0), (.slice (some ⟨W.heap.size + 1 + 1 + 1, 0, none⟩) 2 2), (.slice none 0 0), (.slice (some ⟨W.heap.size + 1, 0, none⟩) 2 2), (.slice none 0 0), (.slice none 0 0), (.slice (some ⟨W.heap.size, 0, none⟩) 2 2), (.slice (some ⟨W.heap.size + 1, 0, none⟩) 2 2), (.slice (some ⟨W.heap.size + 1 + 1, 0, none⟩) 2 2), (.slice none 0 0), (.slice (some ⟨W.heap.size, 0, none⟩) 2 2), (.slice (some ⟨W.heap.size + 1, 0, none⟩) 2 2)] 23) := ⟨_, rfl⟩
  have T1 : Table w5 w4.heap.size 10 (Good n) := by
    rw [hw5]
    refine Table.mk (T := [((.slice (some ⟨W.heap.size + 1 + 1, 0, none⟩) 2 2), (.slice (some ⟨W.heap.size + 1 + 1 + 1, 0, none⟩) 2 2), (.slice (some ⟨W.heap.size, 0, none⟩) 2 2), (.slice (some ⟨W.heap.size + 1, 0, none⟩) 2 2)), ((.slice (some ⟨W.heap.size + 1 + 1, 0, none⟩) 2 2), (.slice (some ⟨W.heap.size + 1 + 1 + 1, 0, none⟩) 2 2), (.slice (some ⟨W.heap.size, 0, none⟩) 2 2), (.slice none 0 0)), ((.slice (some ⟨W.heap.size + 1 + 1, 0, none⟩) 2 2), (.slice (some ⟨W.heap.size + 1 + 1 + 1, 0, none⟩) 2 2), (.slice none 0 0), (.slice (some ⟨W.heap.size + 1, 0, none⟩) 2 2)), ((.slice (some ⟨W.heap.size + 1 + 1, 0, none⟩) 2 2), (.slice (some ⟨W.heap.size + 1 + 1 + 1, 0, none⟩) 2 2), (.slice none 0 0), (.slice none 0 0)), ((.slice (some ⟨W.heap.size + 1 + 1, 0, none⟩) 2 2), (.slice none 0 0), (.slice (some ⟨W.heap.size, 0, none⟩) 2 2), (.slice none 0 0)), ((.slice (some ⟨W.heap.size + 1 + 1, 0, none⟩) 2 2), (.slice none 0 0), (.slice none 0 0), (.slice (some ⟨W.heap.size + 1, 0, none⟩) 2 2)), ((.slice none 0 0), (.slice (some ⟨W.heap.size + 1 + 1 + 1, 0, none⟩) 2 2), (.slice (some ⟨W.heap.size, 0, none⟩) 2 2), (.slice none 0 0)), ((.slice none 0 0), (.slice (some ⟨W.heap.size + 1 + 1 + 1, 0, none⟩) 2 2), (.slice none 0 0), (.slice (some ⟨W.heap.size + 1, 0, none⟩) 2 2)), ((.slice none 0 0), (.slice none 0 0), (.slice (some ⟨W.heap.size, 0, none⟩) 2 2), (.slice (some ⟨W.heap.size + 1, 0, none⟩) 2 2)), ((.slice (some ⟨W.heap.size + 1 + 1, 0, none⟩) 2 2), (.slice none 0 0), (.slice (some ⟨W.heap.size, 0, none⟩) 2 2), (.slice (some ⟨W.heap.size + 1, 0, none⟩) 2 2))]) rfl rfl rfl ?_
    intro t ht
    simp only [List.mem_cons, List.not_mem_nil, or_false] at ht
    rcases ht with rfl | rfl | rfl | rfl | rfl | rfl | rfl | rfl | rfl | rfl
    · exact ⟨([2, x], [7, y], [1, n], [3, 9]), ⟨RP, RQ, RA, RB⟩, (good_of HN.out (.inl (by rw [HX.out])) (.inl (by rw [HY.out])) (.inr rfl) (.inr rfl) (Nat.le_of_ble_eq_true rfl))⟩
    · exact ⟨([2, x], [7, y], [1, n], []), ⟨RP, RQ, RA, (Byt.nil _)⟩, (good_of HN.out (.inl (by rw [HX.out])) (.inl (by rw [HY.out])) (.inr rfl) (.inl rfl) (Nat.le_of_ble_eq_true rfl))⟩
    · exact ⟨([2, x], [7, y], [], [3, 9]), ⟨RP, RQ, (Byt.nil _), RB⟩, (good_of HN.out (.inl (by rw [HX.out])) (.inl (by rw [HY.out])) (.inl rfl) (.inr rfl) (Nat.le_of_ble_eq_true rfl))⟩
    · exact ⟨([2, x], [7, y], [], []), ⟨RP, RQ, (Byt.nil _), (Byt.nil _)⟩, (good_of HN.out (.inl (by rw [HX.out])) (.inl (by rw [HY.out])) (.inl rfl) (.inl rfl) (Nat.le_of_ble_eq_true rfl))⟩
    · exact ⟨([2, x], [], [1, n], []), ⟨RP, (Byt.nil _), RA, (Byt.nil _)⟩, (good_of HN.out (.inl (by rw [HX.out])) (.inr rfl) (.inr rfl) (.inl rfl) (Nat.le_of_ble_eq_true rfl))⟩
    · exact ⟨([2, x], [], [], [3, 9]), ⟨RP, (Byt.nil _), (Byt.nil _), RB⟩, (good_of HN.out (.inl (by rw [HX.out])) (.inr rfl) (.inl rfl) (.inr rfl) (Nat.le_of_ble_eq_true rfl))⟩
    · exact ⟨([], [7, y], [1, n], []), ⟨(Byt.nil _), RQ, RA, (Byt.nil _)⟩, (good_of HN.out (.inr rfl) (.inl (by rw [HY.out])) (.inr rfl) (.inl rfl) (Nat.le_of_ble_eq_true rfl))⟩
    · exact ⟨([], [7, y], [], [3, 9]), ⟨(Byt.nil _), RQ, (Byt.nil _), RB⟩, (good_of HN.out (.inr rfl) (.inl (by rw [HY.out])) (.inl rfl) (.inr rfl) (Nat.le_of_ble_eq_true rfl))⟩
    · exact ⟨([], [], [1, n], [3, 9]), ⟨(Byt.nil _), (Byt.nil _), RA, RB⟩, (good_of HN.out (.inr rfl) (.inr rfl) (.inr rfl) (.inr rfl) (Nat.le_of_ble_eq_true rfl))⟩
    · exact ⟨([2, x], [], [1, n], [3, 9]), ⟨RP, (Byt.nil _), RA, RB⟩, (good_of HN.out (.inl (by rw [HX.out])) (.inr rfl) (.inr rfl) (.inr rfl) (Nat.le_of_ble_eq_true rfl))⟩
  have hb5 : Below W.heap.size W w5 := by rw [hw5]; exact belA1 hb4
  have hb45 : Below w4.heap.size w4 w5 := by rw [hw5]; exact belA1 (belR _)
  have RA5 := Lib.hid (RA.up hb45)
  have RB5 := Lib.hid (RB.up hb45)
  have RP5 := Lib.hid (RP.up hb45)
  have RQ5 := Lib.hid (RQ.up hb45)
  rw [hs4] at T1
  have T1 := Lib.hid T1
  rw [← hw5]
  clear RA RB RP RQ hb45 hb4 hw5 hw4
  go_loopw [67] (fun i X => ∃ k : Nat, k ≤ 10 ∧ i = .int .i64 k ∧ Below w5.heap.size w5 X) (fun i _ => 10 - (intOf i).toNat)
  case atStart => exact ⟨0, Nat.zero_le _, rfl, belR _⟩
  case round =>
    obtain ⟨k, hk, rfl, BX⟩ := hrel
    by_cases hlt : k < 10
    · obtain ⟨t0, t1, t2, t3, r0, r1, r2, r3, h0, h1, h2, h3, y0, y1, y2, y3, hgood⟩ := (T1.out.up BX).get hlt
      obtain ⟨a0, k0, rfl, _, _⟩ := y0.shape
      obtain ⟨a1, k1, rfl, _, _⟩ := y1.shape
      obtain ⟨a2, k2, rfl, _, _⟩ := y2.shape
      obtain ⟨a3, k3, rfl, _, _⟩ := y3.shape
      obtain ⟨n0, hn0⟩ : ∃ n0, n0 = r0.length := ⟨_, rfl⟩
      obtain ⟨n1, hn1⟩ : ∃ n1, n1 = r1.length := ⟨_, rfl⟩
      obtain ⟨n2, hn2⟩ : ∃ n2, n2 = r2.length := ⟨_, rfl⟩
      obtain ⟨n3, hn3⟩ : ∃ n3, n3 = r3.length := ⟨_, rfl⟩
      rw [← hn0] at h0 y0
      rw [← hn1] at h1 y1
      rw [← hn2] at h2 y2
      rw [← hn3] at h3 y3
      have Y0 := Lib.hid y0
      have Y1 := Lib.hid y1
      have Y2 := Lib.hid y2
      have Y3 := Lib.hid y3
      have HG := Lib.hid hgood
      have hk10 : (k : Int) < 10 := by omega
      have hk00 : (0 : Int) ≤ (k : Int) := by omega
      have HLT := Lib.hid hlt
      have hk1' : IntKind.i64.wrap ((k : Int) + 1) = ((k + 1 : Nat) : Int) := by rw [IntKind.wrap_i64]; omega
      clear y0 y1 y2 y3 hgood hn0 hn1 hn2 hn3 hlt
      go_wp2_with fail
      refine Calls.mono (solve_any 2 _ _ _ r0 r1 [r2, r3] _ (Y0.out.up (belA2 (belR _))) (Y1.out.up (belA2 (belR _))) (Parts.lit2 (by simp) (Y2.out.up (belA1 (belR _))) (Y3.out.up (belA1 (belR _)))) (by decide) (by simp)) ?_
      rintro e w6 ⟨hs, b6⟩
      rcases hs with ⟨_, v', rfl, RB⟩ | ⟨h, _⟩
      case inr => have := HG.out.1; dsimp only at this; rw [this] at h; cases h
      have e6 := HG.out.2
      dsimp only at e6
      rw [e6] at RB
      obtain ⟨a6, k6, rfl, _, _⟩ := RB.parts.shape
      have HRB := Lib.hid RB
      have B6 := belT BX (belT (belA2 (belR _)) b6)
      clear RB e6 b6 h0 h1 h2 h3
      dsimp only [List.length_cons, List.length_nil] at *
      go_wp2_with fail
      refine Calls.mono (same4_any _ _ [[1, n], [3, 9]] [[1, n], [3, 9]] _ (HRB.out.parts.up (belA1 (belR _))) (Parts.lit2 (by first | rfl | simp) (RA5.out.up B6) (RB5.out.up B6))) ?_
      rw [decide_eq_true rfl]
      rintro e w7 ⟨rfl, b7⟩
      go_wp2
      go_roundw
      case rel => exact ⟨k + 1, HLT.out, by go_num, belT B6 (belT (belA1 (belR _)) b7)⟩
      case measure => have := HLT.out; simp [intOf]; omega
    · have hkB : decide ((k : Int) < 10) = false := by rw [decide_eq_false_iff_not]; omega
      have hkP : ((k : Int) < 10) = False := by rw [eq_iff_iff]; exact ⟨fun h => by omega, fun h => h.elim⟩
      clear hlt hk T1
      go_wp2_with fail
      go_cut [122, 123, 124] from 95 (fun tv m i X => m = .int .i64 7 ∧ i = .int .i64 0 ∧ ∃ g, tv = .slice (some ⟨g, 0, none⟩) 7 7 ∧ Hid (Table X g 7 Bad) ∧ Below w5.heap.size w5 X)
      refine wp_region_held_drew (S := fun _ => True) (by kernel_rfl) trivial (fun hHeld => ?_)
      refine wpAnyH_take (i := 0) (oi := _) (v := ?_) rfl (by kernel_rfl) (by kernel_rfl) (by kernel_rfl) (fun _ _ _ h => h) (Or.inl ⟨by rfl, ?_⟩) (by assumption) ?_
      rotate_left
      · intro w hSw
        (try dsimp only at hSw)
        go_simp
        try with_reducible rfl
      try simp only [Act.put, List.getElem_toArray, List.getElem_cons_zero, List.getElem_cons_succ, List.setIfInBounds_toArray, List.set_cons_zero, List.set_cons_succ]
      refine wpAnyH_take (i := 2) (oi := _) (v := ?_) rfl (by kernel_rfl) (by kernel_rfl) (by kernel_rfl) (fun _ _ _ h => h) (Or.inl ⟨by rfl, ?_⟩) (by assumption) ?_
      rotate_left
      · intro w hSw
        (try dsimp only at hSw)
        go_simp
        try with_reducible rfl
      try simp only [Act.put, List.getElem_toArray, List.getElem_cons_zero, List.getElem_cons_succ, List.setIfInBounds_toArray, List.set_cons_zero, List.set_cons_succ]
      refine wpAnyH_take (i := 4) (oi := _) (v := ?_) rfl (by kernel_rfl) (by kernel_rfl) (by kernel_rfl) (fun _ _ _ h => h) (Or.inl ⟨by rfl, ?_⟩) (by assumption) ?_
      rotate_left
      · intro w hSw
        (try dsimp only at hSw)
        go_simp
        try with_reducible rfl
      try simp only [Act.put, List.getElem_toArray, List.getElem_cons_zero, List.getElem_cons_succ, List.setIfInBounds_toArray, List.set_cons_zero, List.set_cons_succ]
      refine wpAnyH_take (i := 6) (oi := _) (v := ?_) rfl (by kernel_rfl) (by kernel_rfl) (by kernel_rfl) (fun _ _ _ h => h) (Or.inl ⟨by rfl, ?_⟩) (by assumption) ?_
      rotate_left
      · intro w hSw
        (try dsimp only at hSw)
        go_simp
        try with_reducible rfl
      try simp only [Act.put, List.getElem_toArray, List.getElem_cons_zero, List.getElem_cons_succ, List.setIfInBounds_toArray, List.set_cons_zero, List.set_cons_succ]
      refine wpAnyH_take (i := 7) (oi := _) (v := ?_) rfl (by kernel_rfl) (by kernel_rfl) (by kernel_rfl) (fun _ _ _ h => h) (Or.inl ⟨by rfl, ?_⟩) (by assumption) ?_
      rotate_left
      · intro w hSw
        (try dsimp only at hSw)
        go_simp
        try with_reducible rfl
      try simp only [Act.put, List.getElem_toArray, List.getElem_cons_zero, List.getElem_cons_succ, List.setIfInBounds_toArray, List.set_cons_zero, List.set_cons_succ]
      refine wpAnyH_take (i := 8) (oi := _) (v := ?_) rfl (by kernel_rfl) (by kernel_rfl) (by kernel_rfl) (fun _ _ _ h => h) (Or.inl ⟨by rfl, ?_⟩) (by assumption) ?_
      rotate_left
      · intro w hSw
        (try dsimp only at hSw)
        go_simp
        try with_reducible rfl
      try simp only [Act.put, List.getElem_toArray, List.getElem_cons_zero, List.getElem_cons_succ, List.setIfInBounds_toArray, List.set_cons_zero, List.set_cons_succ]
      refine wpAnyH_take (i := 9) (oi := _) (v := ?_) rfl (by kernel_rfl) (by kernel_rfl) (by kernel_rfl) (fun _ _ _ h => h) (Or.inl ⟨by rfl, ?_⟩) (by assumption) ?_
      rotate_left
      · intro w hSw
        (try dsimp only at hSw)
        go_simp
        try with_reducible rfl
      try simp only [Act.put, List.getElem_toArray, List.getElem_cons_zero, List.getElem_cons_succ, List.setIfInBounds_toArray, List.set_cons_zero, List.set_cons_succ]
      refine wpAnyH_take (i := 10) (oi := _) (v := ?_) rfl (by kernel_rfl) (by kernel_rfl) (by kernel_rfl) (fun _ _ _ h => h) (Or.inl ⟨by rfl, ?_⟩) (by assumption) ?_
      rotate_left
      · intro w hSw
        (try dsimp only at hSw)
        go_simp
        try with_reducible rfl
      try simp only [Act.put, List.getElem_toArray, List.getElem_cons_zero, List.getElem_cons_succ, List.setIfInBounds_toArray, List.set_cons_zero, List.set_cons_succ]
      refine wpAnyH_take (i := 13) (oi := _) (v := ?_) rfl (by kernel_rfl) (by kernel_rfl) (by kernel_rfl) (fun _ _ _ h => h) (Or.inl ⟨by rfl, ?_⟩) (by assumption) ?_
      rotate_left
      · intro w hSw
        (try dsimp only at hSw)
        go_simp
        try with_reducible rfl
      try simp only [Act.put, List.getElem_toArray, List.getElem_cons_zero, List.getElem_cons_succ, List.setIfInBounds_toArray, List.set_cons_zero, List.set_cons_succ]
      refine wpAnyH_take (i := 15) (oi := _) (v := ?_) rfl (by kernel_rfl) (by kernel_rfl) (by kernel_rfl) (fun _ _ _ h => h) (Or.inl ⟨by rfl, ?_⟩) (by assumption) ?_
      rotate_left
      · intro w hSw
        (try dsimp only at hSw)
        go_simp
        try with_reducible rfl
      try simp only [Act.put, List.getElem_toArray, List.getElem_cons_zero, List.getElem_cons_succ, List.setIfInBounds_toArray, List.set_cons_zero, List.set_cons_succ]
      refine wpAnyH_take (i := 16) (oi := _) (v := ?_) rfl (by kernel_rfl) (by kernel_rfl) (by kernel_rfl) (fun _ _ _ h => h) (Or.inl ⟨by rfl, ?_⟩) (by assumption) ?_
      rotate_left
      · intro w hSw
        (try dsimp only at hSw)
        go_simp
        try with_reducible rfl
      try simp only [Act.put, List.getElem_toArray, List.getElem_cons_zero, List.getElem_cons_succ, List.setIfInBounds_toArray, List.set_cons_zero, List.set_cons_succ]
      refine wpAnyH_take (i := 17) (oi := _) (v := ?_) rfl (by kernel_rfl) (by kernel_rfl) (by kernel_rfl) (fun _ _ _ h => h) (Or.inl ⟨by rfl, ?_⟩) (by assumption) ?_
      rotate_left
      · intro w hSw
        (try dsimp only at hSw)
        go_simp
        try with_reducible rfl
      try simp only [Act.put, List.getElem_toArray, List.getElem_cons_zero, List.getElem_cons_succ, List.setIfInBounds_toArray, List.set_cons_zero, List.set_cons_succ]
      refine wpAnyH_take (i := 19) (oi := _) (v := ?_) rfl (by kernel_rfl) (by kernel_rfl) (by kernel_rfl) (fun _ _ _ h => h) (Or.inl ⟨by rfl, ?_⟩) (by assumption) ?_
      rotate_left
      · intro w hSw
        (try dsimp only at hSw)
        go_simp
        try with_reducible rfl
      try simp only [Act.put, List.getElem_toArray, List.getElem_cons_zero, List.getElem_cons_succ, List.setIfInBounds_toArray, List.set_cons_zero, List.set_cons_succ]
      refine wpAnyH_take (i := 20) (oi := _) (v := ?_) rfl (by kernel_rfl) (by kernel_rfl) (by kernel_rfl) (fun _ _ _ h => h) (Or.inl ⟨by rfl, ?_⟩) (by assumption) ?_
      rotate_left
      · intro w hSw
        (try dsimp only at hSw)
        go_simp
        try with_reducible rfl
      try simp only [Act.put, List.getElem_toArray, List.getElem_cons_zero, List.getElem_cons_succ, List.setIfInBounds_toArray, List.set_cons_zero, List.set_cons_succ]
      refine wpAnyH_take (i := 24) (oi := _) (v := ?_) rfl (by kernel_rfl) (by kernel_rfl) (by kernel_rfl) (fun _ _ _ h => h) (Or.inl ⟨by rfl, ?_⟩) (by assumption) ?_
      rotate_left
      · intro w hSw
        (try dsimp only at hSw)
        go_simp
        try with_reducible rfl
      try simp only [Act.put, List.getElem_toArray, List.getElem_cons_zero, List.getElem_cons_succ, List.setIfInBounds_toArray, List.set_cons_zero, List.set_cons_succ]
      refine wpAnyH_take (i := 25) (oi := _) (v := ?_) rfl (by kernel_rfl) (by kernel_rfl) (by kernel_rfl) (fun _ _ _ h => h) (Or.inl ⟨by rfl, ?_⟩) (by assumption) ?_
      rotate_left
      · intro w hSw
        (try dsimp only at hSw)
        go_simp
        try with_reducible rfl
      try simp only [Act.put, List.getElem_toArray, List.getElem_cons_zero, List.getElem_cons_succ, List.setIfInBounds_toArray, List.set_cons_zero, List.set_cons_succ]
      refine wpAnyH_take (i := 29) (oi := _) (v := ?_) rfl (by kernel_rfl) (by kernel_rfl) (by kernel_rfl) (fun _ _ _ h => h) (Or.inl ⟨by rfl, ?_⟩) (by assumption) ?_
      rotate_left
      · intro w hSw
        (try dsimp only at hSw)
        go_simp
        try with_reducible rfl
      try simp only [Act.put, List.getElem_toArray, List.getElem_cons_zero, List.getElem_cons_succ, List.setIfInBounds_toArray, List.set_cons_zero, List.set_cons_succ]
      refine wpAnyH_take (i := 1) (oi := _) (v := ?_) rfl (by kernel_rfl) (by kernel_rfl) (by kernel_rfl) (fun _ _ _ h => h) (Or.inl ⟨by rfl, ?_⟩) (by assumption) ?_
      rotate_left
      · intro w hSw
        (try dsimp only at hSw)
        go_simp
        try with_reducible rfl
      try simp only [Act.put, List.getElem_toArray, List.getElem_cons_zero, List.getElem_cons_succ, List.setIfInBounds_toArray, List.set_cons_zero, List.set_cons_succ]
      refine wpAnyH_take (i := 3) (oi := _) (v := ?_) rfl (by kernel_rfl) (by kernel_rfl) (by kernel_rfl) (fun _ _ _ h => h) (Or.inl ⟨by rfl, ?_⟩) (by assumption) ?_
      rotate_left
      · intro w hSw
        (try dsimp only at hSw)
        go_simp
        try with_reducible rfl
      try simp only [Act.put, List.getElem_toArray, List.getElem_cons_zero, List.getElem_cons_succ, List.setIfInBounds_toArray, List.set_cons_zero, List.set_cons_succ]
      refine wpAnyH_take (i := 5) (oi := _) (v := ?_) rfl (by kernel_rfl) (by kernel_rfl) (by kernel_rfl) (fun _ _ _ h => h) (Or.inl ⟨by rfl, ?_⟩) (by assumption) ?_
      rotate_left
      · intro w hSw
        (try dsimp only at hSw)
        go_simp
        try with_reducible rfl
      try simp only [Act.put, List.getElem_toArray, List.getElem_cons_zero, List.getElem_cons_succ, List.setIfInBounds_toArray, List.set_cons_zero, List.set_cons_succ]
      refine wpAnyH_take (i := 11) (oi := _) (v := ?_) rfl (by kernel_rfl) (by kernel_rfl) (by kernel_rfl) (fun _ _ _ h => h) (Or.inl ⟨by rfl, ?_⟩) (by assumption) ?_
      rotate_left
      · intro w hSw
        (try dsimp only at hSw)
        go_simp
        try with_reducible rfl
      try simp only [Act.put, List.getElem_toArray, List.getElem_cons_zero, List.getElem_cons_succ, List.setIfInBounds_toArray, List.set_cons_zero, List.set_cons_succ]
      refine wpAnyH_take (i := 14) (oi := _) (v := ?_) rfl (by kernel_rfl) (by kernel_rfl) (by kernel_rfl) (fun _ _ _ h => h) (Or.inl ⟨by rfl, ?_⟩) (by assumption) ?_
      rotate_left
      · intro w hSw
        (try dsimp only at hSw)
        go_simp
        try with_reducible rfl
      try simp only [Act.put, List.getElem_toArray, List.getElem_cons_zero, List.getElem_cons_succ, List.setIfInBounds_toArray, List.set_cons_zero, List.set_cons_succ]
      refine wpAnyH_take (i := 12) (oi := _) (v := ?_) rfl (by kernel_rfl) (by kernel_rfl) (by kernel_rfl) (fun _ _ _ h => h) (Or.inl ⟨by rfl, ?_⟩) (by assumption) ?_
      rotate_left
      · intro w hSw
        (try dsimp only at hSw)
        go_simp
        try with_reducible rfl
      try simp only [Act.put, List.getElem_toArray, List.getElem_cons_zero, List.getElem_cons_succ, List.setIfInBounds_toArray, List.set_cons_zero, List.set_cons_succ]
      refine wpAnyH_take (i := 18) (oi := _) (v := ?_) rfl (by kernel_rfl) (by kernel_rfl) (by kernel_rfl) (fun _ _ _ h => h) (Or.inl ⟨by rfl, ?_⟩) (by assumption) ?_
      rotate_left
      · intro w hSw
        (try dsimp only at hSw)
        go_simp
        try with_reducible rfl
      try simp only [Act.put, List.getElem_toArray, List.getElem_cons_zero, List.getElem_cons_succ, List.setIfInBounds_toArray, List.set_cons_zero, List.set_cons_succ]
      refine wpAnyH_ready (rs := [21, 22]) (by kernel_rfl) (by simp) ?_
      refine AllReadyH.cons (o := _) rfl (fun K hK => ?_) (AllReadyH.cons (o := _) rfl (fun K hK => ?_) AllReadyH.nil)
      · go_simp
        refine Calls.mono (copy_any _ [7, y] _ (RQ5.out.up (belT BX (by iterate 10 try (first | assumption | exact belR _ | apply belDr | apply belAlloc)))) (by simp)) ?_
        rintro e wq ⟨vq, rfl, OQ, bq⟩
        have BQ : Below wr.heap.size wr wq := belT (by iterate 10 try (first | assumption | exact belR _ | apply belDr | apply belAlloc)) bq
        have OQ' : Own wq wr.heap.size vq [7, y] := own_mono OQ ((by iterate 10 try (first | assumption | exact belR _ | apply belDr | apply belAlloc)) : Below wr.heap.size wr _).size
        try go_simp
        refine hK.out _ _ trivial (fun hHeld => ?_)
        clear hK K
        try simp only [Act.put, List.getElem_toArray, List.getElem_cons_zero, List.getElem_cons_succ, List.setIfInBounds_toArray, List.set_cons_zero, List.set_cons_succ]
        refine wpAnyH_ready (rs := [22]) (by kernel_rfl) (by simp) ?_
        refine AllReadyH.cons (o := _) rfl (fun K hK => ?_) AllReadyH.nil
        go_simp
        refine hK.out _ _ trivial (fun hHeld => ?_)
        clear hK K
        try simp only [Act.put, List.getElem_toArray, List.getElem_cons_zero, List.getElem_cons_succ, List.setIfInBounds_toArray, List.set_cons_zero, List.set_cons_succ]
        refine wpAnyH_ready (rs := [23]) (by kernel_rfl) (by simp) ?_
        refine AllReadyH.cons (o := _) rfl (fun K hK => ?_) AllReadyH.nil
        rw [if_pos (by rfl)]
        refine wp_append_bytes _ _ 22 rfl j0 Try.underlying22 hj hy0 hy1 hy2 wr.heap.size _ [7, y] rfl (OQ'.up (by iterate 8 try (first | exact belR _ | apply belDr | apply belAlloc | fail))) _ _ _ _ [1] rfl (by first | exact (Byt.lit1 _ 1 _ (by first | rfl | simp) (by decide)) | exact (Byt.lit1 _ 1 _ (by first | rfl | simp) (by decide)).up (by iterate 8 try (first | exact belR _ | apply belDr | apply belAlloc | refine belT ?_ bq))) (by simp) ((by iterate 10 try (first | assumption | exact belR _ | apply belDr | apply belAlloc)) : Below wr.heap.size wr _).size ?_
        intro vz wz OZ gz
        have BZ : Below wr.heap.size wr wz := belG ((by iterate 10 try (first | assumption | exact belR _ | apply belDr | apply belAlloc)) : Below wr.heap.size wr _) gz (fun g hg => OQ'.ge g hg)
        obtain ⟨gq, kq, rfl, _, _, _, _⟩ := OZ.shape (by simp)
        try dsimp only [List.length_append, List.length_cons, List.length_nil] at OZ
        try go_simp
        refine hK.out _ _ trivial (fun hHeld => ?_)
        clear hK K
        try simp only [Act.put, List.getElem_toArray, List.getElem_cons_zero, List.getElem_cons_succ, List.setIfInBounds_toArray, List.set_cons_zero, List.set_cons_succ]
        refine wpAnyH_take (i := 26) (oi := _) (v := ?_) rfl (by kernel_rfl) (by kernel_rfl) (by kernel_rfl) (fun _ _ _ h => h) (Or.inl ⟨by rfl, ?_⟩) (by assumption) ?_
        rotate_left
        · intro w hSw
          (try dsimp only at hSw)
          go_simp
          try with_reducible rfl
        try simp only [Act.put, List.getElem_toArray, List.getElem_cons_zero, List.getElem_cons_succ, List.setIfInBounds_toArray, List.set_cons_zero, List.set_cons_succ]
        refine wpAnyH_ready (rs := [27]) (by kernel_rfl) (by simp) ?_
        refine AllReadyH.cons (o := _) rfl (fun K hK => ?_) AllReadyH.nil
        go_simp
        refine hK.out _ _ trivial (fun hHeld => ?_)
        clear hK K
        try simp only [Act.put, List.getElem_toArray, List.getElem_cons_zero, List.getElem_cons_succ, List.setIfInBounds_toArray, List.set_cons_zero, List.set_cons_succ]
        refine wpAnyH_ready (rs := [28]) (by kernel_rfl) (by simp) ?_
        refine AllReadyH.cons (o := _) rfl (fun K hK => ?_) AllReadyH.nil
        go_simp
        refine hK.out _ _ trivial (fun hHeld => ?_)
        clear hK K
        try simp only [Act.put, List.getElem_toArray, List.getElem_cons_zero, List.getElem_cons_succ, List.setIfInBounds_toArray, List.set_cons_zero, List.set_cons_succ]
        refine wpAnyH_done (by kernel_rfl) ?_ _
        go_wp2
        go_meet
        case rel =>
          refine ⟨rfl, rfl, _, rfl, Lib.hid ?_, belT BX (by iterate 10 try (first | assumption | exact belR _ | apply belDr | apply belAlloc))⟩
          first | refine Table.mk (T := [((.slice none 0 0), (.slice none 0 0), (.slice (some ⟨W.heap.size, 0, none⟩) 2 2), (.slice none 0 0)), ((.slice (some ⟨W.heap.size + 1 + 1, 0, none⟩) 2 2), (.slice none 0 0), (.slice none 0 0), (.slice none 0 0)), ((.slice none 0 0), (.slice (some ⟨W.heap.size + 1 + 1 + 1, 0, none⟩) 2 2), (.slice none 0 0), (.slice none 0 0)), ((.slice none 0 0), (.slice none 0 0), (.slice none 0 0), (.slice none 0 0)), ((.slice (some ⟨W.heap.size + 1 + 1, 0, none⟩) 2 2), (.slice (some ⟨W.heap.size + 1 + 1 + 1, 0, none⟩) 2 2), (.slice (some ⟨W.heap.size, 0, none⟩) 2 2), (.slice (some ⟨W.heap.size + 1, 0, none⟩) 1 2)), ((.slice (some ⟨W.heap.size + 1 + 1, 0, none⟩) 1 2), (.slice (some ⟨W.heap.size + 1 + 1 + 1, 0, none⟩) 2 2), (.slice (some ⟨W.heap.size, 0, none⟩) 2 2), (.slice (some ⟨W.heap.size + 1, 0, none⟩) 2 2)), ((.slice (some ⟨W.heap.size + 1 + 1, 0, none⟩) 2 2), (.slice (some ⟨gq, 0, none⟩) 3 kq), (.slice (some ⟨W.heap.size, 0, none⟩) 2 2), (.slice (some ⟨W.heap.size + 1, 0, none⟩) 2 2))]) (by first | rfl | simp) rfl rfl ?_ | refine (Table.mk (T := [((.slice none 0 0), (.slice none 0 0), (.slice (some ⟨W.heap.size, 0, none⟩) 2 2), (.slice none 0 0)), ((.slice (some ⟨W.heap.size + 1 + 1, 0, none⟩) 2 2), (.slice none 0 0), (.slice none 0 0), (.slice none 0 0)), ((.slice none 0 0), (.slice (some ⟨W.heap.size + 1 + 1 + 1, 0, none⟩) 2 2), (.slice none 0 0), (.slice none 0 0)), ((.slice none 0 0), (.slice none 0 0), (.slice none 0 0), (.slice none 0 0)), ((.slice (some ⟨W.heap.size + 1 + 1, 0, none⟩) 2 2), (.slice (some ⟨W.heap.size + 1 + 1 + 1, 0, none⟩) 2 2), (.slice (some ⟨W.heap.size, 0, none⟩) 2 2), (.slice (some ⟨W.heap.size + 1, 0, none⟩) 1 2)), ((.slice (some ⟨W.heap.size + 1 + 1, 0, none⟩) 1 2), (.slice (some ⟨W.heap.size + 1 + 1 + 1, 0, none⟩) 2 2), (.slice (some ⟨W.heap.size, 0, none⟩) 2 2), (.slice (some ⟨W.heap.size + 1, 0, none⟩) 2 2)), ((.slice (some ⟨W.heap.size + 1 + 1, 0, none⟩) 2 2), (.slice (some ⟨gq, 0, none⟩) 3 kq), (.slice (some ⟨W.heap.size, 0, none⟩) 2 2), (.slice (some ⟨W.heap.size + 1, 0, none⟩) 2 2))]) (by first | rfl | simp) rfl rfl ?_).up (belDr (belR _))
          intro t ht
          simp only [List.mem_cons, List.not_mem_nil, or_false] at ht
          rcases ht with rfl | rfl | rfl | rfl | rfl | rfl | rfl
          · exact ⟨([], [], [1, n], []), ⟨(Byt.nil _), (Byt.nil _), (RA5.out.up (belT BX (by iterate 10 try (first | assumption | exact belR _ | apply belDr | apply belAlloc)))), (Byt.nil _)⟩, rfl⟩
          · exact ⟨([2, x], [], [], []), ⟨(RP5.out.up (belT BX (by iterate 10 try (first | assumption | exact belR _ | apply belDr | apply belAlloc)))), (Byt.nil _), (Byt.nil _), (Byt.nil _)⟩, rfl⟩
          · exact ⟨([], [7, y], [], []), ⟨(Byt.nil _), (RQ5.out.up (belT BX (by iterate 10 try (first | assumption | exact belR _ | apply belDr | apply belAlloc)))), (Byt.nil _), (Byt.nil _)⟩, rfl⟩
          · exact ⟨([], [], [], []), ⟨(Byt.nil _), (Byt.nil _), (Byt.nil _), (Byt.nil _)⟩, rfl⟩
          · exact ⟨([2, x], [7, y], [1, n], [3]), ⟨(RP5.out.up (belT BX (by iterate 10 try (first | assumption | exact belR _ | apply belDr | apply belAlloc)))), (RQ5.out.up (belT BX (by iterate 10 try (first | assumption | exact belR _ | apply belDr | apply belAlloc)))), (RA5.out.up (belT BX (by iterate 10 try (first | assumption | exact belR _ | apply belDr | apply belAlloc)))), ((RB5.out.up (belT BX (by iterate 10 try (first | assumption | exact belR _ | apply belDr | apply belAlloc)))).take (k := 1) (c := 2) (by decide) (by decide) (by simp [maxLen]))⟩, rfl⟩
          · exact ⟨([2], [7, y], [1, n], [3, 9]), ⟨((RP5.out.up (belT BX (by iterate 10 try (first | assumption | exact belR _ | apply belDr | apply belAlloc)))).take (k := 1) (c := 2) (by decide) (by decide) (by simp [maxLen])), (RQ5.out.up (belT BX (by iterate 10 try (first | assumption | exact belR _ | apply belDr | apply belAlloc)))), (RA5.out.up (belT BX (by iterate 10 try (first | assumption | exact belR _ | apply belDr | apply belAlloc)))), (RB5.out.up (belT BX (by iterate 10 try (first | assumption | exact belR _ | apply belDr | apply belAlloc))))⟩, rfl⟩
          · exact ⟨([2, x], [7, y, 1], [1, n], [3, 9]), ⟨(RP5.out.up (belT BX (by iterate 10 try (first | assumption | exact belR _ | apply belDr | apply belAlloc)))), (OZ.byt.up (by iterate 8 try (first | exact belR _ | apply belDr | apply belAlloc | fail))), (RA5.out.up (belT BX (by iterate 10 try (first | assumption | exact belR _ | apply belDr | apply belAlloc)))), (RB5.out.up (belT BX (by iterate 10 try (first | assumption | exact belR _ | apply belDr | apply belAlloc))))⟩, rfl⟩
      · go_simp
        refine hK.out _ _ trivial (fun hHeld => ?_)
        clear hK K
        try simp only [Act.put, List.getElem_toArray, List.getElem_cons_zero, List.getElem_cons_succ, List.setIfInBounds_toArray, List.set_cons_zero, List.set_cons_succ]
        refine wpAnyH_ready (rs := [21]) (by kernel_rfl) (by simp) ?_
        refine AllReadyH.cons (o := _) rfl (fun K hK => ?_) AllReadyH.nil
        go_simp
        refine Calls.mono (copy_any _ [7, y] _ (RQ5.out.up (belT BX (by iterate 10 try (first | assumption | exact belR _ | apply belDr | apply belAlloc)))) (by simp)) ?_
        rintro e wq ⟨vq, rfl, OQ, bq⟩
        have BQ : Below wr.heap.size wr wq := belT (by iterate 10 try (first | assumption | exact belR _ | apply belDr | apply belAlloc)) bq
        have OQ' : Own wq wr.heap.size vq [7, y] := own_mono OQ ((by iterate 10 try (first | assumption | exact belR _ | apply belDr | apply belAlloc)) : Below wr.heap.size wr _).size
        try go_simp
        refine hK.out _ _ trivial (fun hHeld => ?_)
        clear hK K
        try simp only [Act.put, List.getElem_toArray, List.getElem_cons_zero, List.getElem_cons_succ, List.setIfInBounds_toArray, List.set_cons_zero, List.set_cons_succ]
        refine wpAnyH_ready (rs := [23]) (by kernel_rfl) (by simp) ?_
        refine AllReadyH.cons (o := _) rfl (fun K hK => ?_) AllReadyH.nil
        rw [if_pos (by rfl)]
        refine wp_append_bytes _ _ 22 rfl j0 Try.underlying22 hj hy0 hy1 hy2 wr.heap.size _ [7, y] rfl (OQ'.up (by iterate 8 try (first | exact belR _ | apply belDr | apply belAlloc | fail))) _ _ _ _ [1] rfl (by first | exact (Byt.lit1 _ 1 _ (by first | rfl | simp) (by decide)) | exact (Byt.lit1 _ 1 _ (by first | rfl | simp) (by decide)).up (by iterate 8 try (first | exact belR _ | apply belDr | apply belAlloc | refine belT ?_ bq))) (by simp) ((by iterate 10 try (first | assumption | exact belR _ | apply belDr | apply belAlloc)) : Below wr.heap.size wr _).size ?_
        intro vz wz OZ gz
        have BZ : Below wr.heap.size wr wz := belG ((by iterate 10 try (first | assumption | exact belR _ | apply belDr | apply belAlloc)) : Below wr.heap.size wr _) gz (fun g hg => OQ'.ge g hg)
        obtain ⟨gq, kq, rfl, _, _, _, _⟩ := OZ.shape (by simp)
        try dsimp only [List.length_append, List.length_cons, List.length_nil] at OZ
        try go_simp
        refine hK.out _ _ trivial (fun hHeld => ?_)
        clear hK K
        try simp only [Act.put, List.getElem_toArray, List.getElem_cons_zero, List.getElem_cons_succ, List.setIfInBounds_toArray, List.set_cons_zero, List.set_cons_succ]
        refine wpAnyH_take (i := 26) (oi := _) (v := ?_) rfl (by kernel_rfl) (by kernel_rfl) (by kernel_rfl) (fun _ _ _ h => h) (Or.inl ⟨by rfl, ?_⟩) (by assumption) ?_
        rotate_left
        · intro w hSw
          (try dsimp only at hSw)
          go_simp
          try with_reducible rfl
        try simp only [Act.put, List.getElem_toArray, List.getElem_cons_zero, List.getElem_cons_succ, List.setIfInBounds_toArray, List.set_cons_zero, List.set_cons_succ]
        refine wpAnyH_ready (rs := [27]) (by kernel_rfl) (by simp) ?_
        refine AllReadyH.cons (o := _) rfl (fun K hK => ?_) AllReadyH.nil
        go_simp
        refine hK.out _ _ trivial (fun hHeld => ?_)
        clear hK K
        try simp only [Act.put, List.getElem_toArray, List.getElem_cons_zero, List.getElem_cons_succ, List.setIfInBounds_toArray, List.set_cons_zero, List.set_cons_succ]
        refine wpAnyH_ready (rs := [28]) (by kernel_rfl) (by simp) ?_
        refine AllReadyH.cons (o := _) rfl (fun K hK => ?_) AllReadyH.nil
        go_simp
        refine hK.out _ _ trivial (fun hHeld => ?_)
        clear hK K
        try simp only [Act.put, List.getElem_toArray, List.getElem_cons_zero, List.getElem_cons_succ, List.setIfInBounds_toArray, List.set_cons_zero, List.set_cons_succ]
        refine wpAnyH_done (by kernel_rfl) ?_ _
        go_wp2
        go_meet
        case rel =>
          refine ⟨rfl, rfl, _, rfl, Lib.hid ?_, belT BX (by iterate 10 try (first | assumption | exact belR _ | apply belDr | apply belAlloc))⟩
          first | refine Table.mk (T := [((.slice none 0 0), (.slice none 0 0), (.slice (some ⟨W.heap.size, 0, none⟩) 2 2), (.slice none 0 0)), ((.slice (some ⟨W.heap.size + 1 + 1, 0, none⟩) 2 2), (.slice none 0 0), (.slice none 0 0), (.slice none 0 0)), ((.slice none 0 0), (.slice (some ⟨W.heap.size + 1 + 1 + 1, 0, none⟩) 2 2), (.slice none 0 0), (.slice none 0 0)), ((.slice none 0 0), (.slice none 0 0), (.slice none 0 0), (.slice none 0 0)), ((.slice (some ⟨W.heap.size + 1 + 1, 0, none⟩) 2 2), (.slice (some ⟨W.heap.size + 1 + 1 + 1, 0, none⟩) 2 2), (.slice (some ⟨W.heap.size, 0, none⟩) 2 2), (.slice (some ⟨W.heap.size + 1, 0, none⟩) 1 2)), ((.slice (some ⟨W.heap.size + 1 + 1, 0, none⟩) 1 2), (.slice (some ⟨W.heap.size + 1 + 1 + 1, 0, none⟩) 2 2), (.slice (some ⟨W.heap.size, 0, none⟩) 2 2), (.slice (some ⟨W.heap.size + 1, 0, none⟩) 2 2)), ((.slice (some ⟨W.heap.size + 1 + 1, 0, none⟩) 2 2), (.slice (some ⟨gq, 0, none⟩) 3 kq), (.slice (some ⟨W.heap.size, 0, none⟩) 2 2), (.slice (some ⟨W.heap.size + 1, 0, none⟩) 2 2))]) (by first | rfl | simp) rfl rfl ?_ | refine (Table.mk (T := [((.slice none 0 0), (.slice none 0 0), (.slice (some ⟨W.heap.size, 0, none⟩) 2 2), (.slice none 0 0)), ((.slice (some ⟨W.heap.size + 1 + 1, 0, none⟩) 2 2), (.slice none 0 0), (.slice none 0 0), (.slice none 0 0)), ((.slice none 0 0), (.slice (some ⟨W.heap.size + 1 + 1 + 1, 0, none⟩) 2 2), (.slice none 0 0), (.slice none 0 0)), ((.slice none 0 0), (.slice none 0 0), (.slice none 0 0), (.slice none 0 0)), ((.slice (some ⟨W.heap.size + 1 + 1, 0, none⟩) 2 2), (.slice (some ⟨W.heap.size + 1 + 1 + 1, 0, none⟩) 2 2), (.slice (some ⟨W.heap.size, 0, none⟩) 2 2), (.slice (some ⟨W.heap.size + 1, 0, none⟩) 1 2)), ((.slice (some ⟨W.heap.size + 1 + 1, 0, none⟩) 1 2), (.slice (some ⟨W.heap.size + 1 + 1 + 1, 0, none⟩) 2 2), (.slice (some ⟨W.heap.size, 0, none⟩) 2 2), (.slice (some ⟨W.heap.size + 1, 0, none⟩) 2 2)), ((.slice (some ⟨W.heap.size + 1 + 1, 0, none⟩) 2 2), (.slice (some ⟨gq, 0, none⟩) 3 kq), (.slice (some ⟨W.heap.size, 0, none⟩) 2 2), (.slice (some ⟨W.heap.size + 1, 0, none⟩) 2 2))]) (by first | rfl | simp) rfl rfl ?_).up (belDr (belR _))
          intro t ht
          simp only [List.mem_cons, List.not_mem_nil, or_false] at ht
          rcases ht with rfl | rfl | rfl | rfl | rfl | rfl | rfl
          · exact ⟨([], [], [1, n], []), ⟨(Byt.nil _), (Byt.nil _), (RA5.out.up (belT BX (by iterate 10 try (first | assumption | exact belR _ | apply belDr | apply belAlloc)))), (Byt.nil _)⟩, rfl⟩
          · exact ⟨([2, x], [], [], []), ⟨(RP5.out.up (belT BX (by iterate 10 try (first | assumption | exact belR _ | apply belDr | apply belAlloc)))), (Byt.nil _), (Byt.nil _), (Byt.nil _)⟩, rfl⟩
          · exact ⟨([], [7, y], [], []), ⟨(Byt.nil _), (RQ5.out.up (belT BX (by iterate 10 try (first | assumption | exact belR _ | apply belDr | apply belAlloc)))), (Byt.nil _), (Byt.nil _)⟩, rfl⟩
          · exact ⟨([], [], [], []), ⟨(Byt.nil _), (Byt.nil _), (Byt.nil _), (Byt.nil _)⟩, rfl⟩
          · exact ⟨([2, x], [7, y], [1, n], [3]), ⟨(RP5.out.up (belT BX (by iterate 10 try (first | assumption | exact belR _ | apply belDr | apply belAlloc)))), (RQ5.out.up (belT BX (by iterate 10 try (first | assumption | exact belR _ | apply belDr | apply belAlloc)))), (RA5.out.up (belT BX (by iterate 10 try (first | assumption | exact belR _ | apply belDr | apply belAlloc)))), ((RB5.out.up (belT BX (by iterate 10 try (first | assumption | exact belR _ | apply belDr | apply belAlloc)))).take (k := 1) (c := 2) (by decide) (by decide) (by simp [maxLen]))⟩, rfl⟩
          · exact ⟨([2], [7, y], [1, n], [3, 9]), ⟨((RP5.out.up (belT BX (by iterate 10 try (first | assumption | exact belR _ | apply belDr | apply belAlloc)))).take (k := 1) (c := 2) (by decide) (by decide) (by simp [maxLen])), (RQ5.out.up (belT BX (by iterate 10 try (first | assumption | exact belR _ | apply belDr | apply belAlloc)))), (RA5.out.up (belT BX (by iterate 10 try (first | assumption | exact belR _ | apply belDr | apply belAlloc)))), (RB5.out.up (belT BX (by iterate 10 try (first | assumption | exact belR _ | apply belDr | apply belAlloc))))⟩, rfl⟩
          · exact ⟨([2, x], [7, y, 1], [1, n], [3, 9]), ⟨(RP5.out.up (belT BX (by iterate 10 try (first | assumption | exact belR _ | apply belDr | apply belAlloc)))), (OZ.byt.up (by iterate 8 try (first | exact belR _ | apply belDr | apply belAlloc | fail))), (RA5.out.up (belT BX (by iterate 10 try (first | assumption | exact belR _ | apply belDr | apply belAlloc)))), (RB5.out.up (belT BX (by iterate 10 try (first | assumption | exact belR _ | apply belDr | apply belAlloc))))⟩, rfl⟩
      obtain ⟨rfl, rfl, g, rfl, T2, B10⟩ := hcut
      go_wp2_with fail
      go_loopw [124] (fun i X => ∃ k : Nat, k ≤ 7 ∧ i = .int .i64 k ∧ Below wc.heap.size wc X) (fun i _ => 7 - (intOf i).toNat)
      case atStart => exact ⟨0, Nat.zero_le _, rfl, belR _⟩
      case round =>
        obtain ⟨k, hk, rfl, BX⟩ := hrel
        by_cases hlt : k < 7
        · obtain ⟨t0, t1, t2, t3, r0, r1, r2, r3, h0, h1, h2, h3, y0, y1, y2, y3, hgood⟩ := (T2.out.up BX).get hlt
          obtain ⟨a0, k0, rfl, _, _⟩ := y0.shape
          obtain ⟨a1, k1, rfl, _, _⟩ := y1.shape
          obtain ⟨a2, k2, rfl, _, _⟩ := y2.shape
          obtain ⟨a3, k3, rfl, _, _⟩ := y3.shape
          obtain ⟨n0, hn0⟩ : ∃ n0, n0 = r0.length := ⟨_, rfl⟩
          obtain ⟨n1, hn1⟩ : ∃ n1, n1 = r1.length := ⟨_, rfl⟩
          obtain ⟨n2, hn2⟩ : ∃ n2, n2 = r2.length := ⟨_, rfl⟩
          obtain ⟨n3, hn3⟩ : ∃ n3, n3 = r3.length := ⟨_, rfl⟩
          rw [← hn0] at h0 y0
          rw [← hn1] at h1 y1
          rw [← hn2] at h2 y2
          rw [← hn3] at h3 y3
          have Y0 := Lib.hid y0
          have Y1 := Lib.hid y1
          have Y2 := Lib.hid y2
          have Y3 := Lib.hid y3
          have HG := Lib.hid hgood
          have hk10 : (k : Int) < 7 := by omega
          have hk00 : (0 : Int) ≤ (k : Int) := by omega
          have HLT := Lib.hid hlt
          have hk1' : IntKind.i64.wrap ((k : Int) + 1) = ((k + 1 : Nat) : Int) := by rw [IntKind.wrap_i64]; omega
          clear y0 y1 y2 y3 hgood hn0 hn1 hn2 hn3 hlt
          go_wp2_with fail
          refine Calls.mono (solve_any 2 _ _ _ r0 r1 [r2, r3] _ (Y0.out.up (belA2 (belR _))) (Y1.out.up (belA2 (belR _))) (Parts.lit2 (by simp) (Y2.out.up (belA1 (belR _))) (Y3.out.up (belA1 (belR _)))) (by decide) (by simp)) ?_
          rintro e w6 ⟨hs, b6⟩
          rcases hs with ⟨h, _⟩ | ⟨_, rfl⟩
          case inl => have := HG.out; unfold Bad at this; dsimp only at this; rw [this] at h; cases h
          have B6 := belT BX (belT (belA2 (belR _)) b6)
          clear b6 h0 h1 h2 h3
          go_wp2
          go_roundw
          case rel => exact ⟨k + 1, HLT.out, by go_num, B6⟩
          case measure => have := HLT.out; simp [intOf]; omega
        · have hkB : decide ((k : Int) < 7) = false := by rw [decide_eq_false_iff_not]; omega
          have hkP : ((k : Int) < 7) = False := by rw [eq_iff_iff]; exact ⟨fun h => by omega, fun h => h.elim⟩
          clear hlt hk T2
          have BX := belT B10 BX
          go_wp2_with fail
          refine Calls.mono (solve_any 2 _ _ _ [2, x] [7, y] [] _ (RP5.out.up BX) (RQ5.out.up BX) (Parts.nil _) (by decide) (by simp)) ?_
          rintro e w20 ⟨hs, b20⟩
          rcases hs with ⟨h, _⟩ | ⟨_, rfl⟩
          case inl => rw [show Y.solveB ((2 : Nat) : Int) [2, x] [7, y] [] = false from rfl] at h; cases h
          have B20 := belT BX b20
          go_wp2_with fail
          refine Calls.mono (solve_any 0 _ _ _ [] [] [[]] _ (Byt.nil _) (Byt.nil _) (Parts.lit1 rfl (Byt.nil _)) (by decide) (by simp)) ?_
          rintro e w21 ⟨hs, b21⟩
          rcases hs with ⟨h, _⟩ | ⟨_, rfl⟩
          case inl => rw [show Y.solveB ((0 : Nat) : Int) [] [] [[]] = false from rfl] at h; cases h
          have B21 := belT B20 (belT (belA1 (belR _)) b21)
          go_wp2_with fail
          refine Calls.mono (solve_any 2 _ _ _ [2, x] [7, y] [[1, n], [1, n], [1, n], [1, n], [1, n], [1, n], [1, n], [1, n], [1, n]] _ (RP5.out.up (belA1 B21)) (RQ5.out.up (belA1 B21)) (Parts.lit _ _ _ _ rfl rfl rfl (by simp) (fun i hi => ?_)) (by decide) (by simp)) ?_
          · have hi' : i = 0 ∨ i = 1 ∨ i = 2 ∨ i = 3 ∨ i = 4 ∨ i = 5 ∨ i = 6 ∨ i = 7 ∨ i = 8 := by simp at hi; omega
            rcases hi' with rfl | rfl | rfl | rfl | rfl | rfl | rfl | rfl | rfl <;> exact ⟨_, rfl, RA5.out.up B21⟩
          rintro e w22 ⟨hs, b22⟩
          rcases hs with ⟨h, _⟩ | ⟨_, rfl⟩
          case inl => rw [show Y.solveB ((2 : Nat) : Int) [2, x] [7, y] [[1, n], [1, n], [1, n], [1, n], [1, n], [1, n], [1, n], [1, n], [1, n]] = false from rfl] at h; cases h
          have B22 := belT B21 (belT (belA1 (belR _)) b22)
          clear BX B20 B21 b20 b21 b22
          go_wp2_with fail
          refine Calls.mono (missing_any _ [[1, n], [], [3, 9], []] _ (Parts.lit4 (by first | rfl | simp) (RA5.out.up (belA1 B22)) (Byt.nil _) (RB5.out.up (belA1 B22)) (Byt.lit _ #[] _ [] (by first | rfl | simp) rfl rfl (by simp) (by simp))) (by simp)) ?_
          rintro e w23 ⟨v23, rfl, O23, b23⟩
          rw [show missI [[1, n], [], [3, 9], []] = [1, 3] from rfl] at O23
          have B23 := belT B22 (belT (belA2 (belR _)) b23)
          go_wp2_with fail
          refine Calls.mono (samei_any _ _ [1, 3] [1, 3] _ (O23.ints.up (belA1 (belR _))) (Ints.lit _ _ _ _ (by first | rfl | simp) rfl rfl (by simp) (by simp))) ?_
          rw [decide_eq_true rfl]
          rintro e w24 ⟨rfl, d24⟩
          have B24 := belT B23 (belT (belA1 (belR _)) (d24.below _))
          go_wp2_with fail
          refine Calls.mono (missing_any _ [] _ (Parts.nil _) (by simp)) ?_
          rintro e w25 ⟨v25, rfl, O25, b25⟩
          rw [show missI [] = [] from rfl] at O25
          obtain ⟨a25, k25, rfl, _, _⟩ := O25.ints.shapeI
          have B25 := belT B24 b25
          clear O25
          dsimp only [List.length_nil] at *
          go_wp2_with fail
          refine Calls.mono (wakes4_any _) ?_
          rintro e w26 ⟨rfl, b26⟩
          go_wp2_with fail
          go_ret
          exact ⟨rfl, belT hb5 (belT B25 b26)⟩
end Go.Proofs.Ytknodcaknopcnaa
