/- A disk in memory: its sectors, its pending writes, what keeps it. -/
import Derived.Test.YtggljcdkiaggeaaDiskQ
import Derived.Test.YtggljcdkiaggeaaFr
namespace Go.Proofs.Ytggljcdkiaggeaa
open Go.RowKit
set_option linter.unusedVariables false
set_option linter.unusedSimpArgs false
set_option maxRecDepth 100000
set_option maxHeartbeats 1000000

theorem sec_info : (Try.prog.info? 76).map (fun i => (i.zero, i.size)) = some (some (.agg (List.replicate 32 (u8v 0)).toArray), 32) := by kernel_rfl
theorem write_info : (Try.prog.info? 82).map (fun i => (i.zero, i.size)) = some (some (.agg (wcells (0, List.replicate 32 0)).toArray), 33) := by kernel_rfl
theorem getD_lt {α : Type} {l : List α} {a : Nat} {d : α} (h : a < l.length) : l.getD a d = l[a] := by simp [List.getD, h]
theorem IsDisk.sec_lt {w : World} {base g : Nat} {pv : Value} {d : D.Dk} (h : IsDisk w base g pv d) {a : Nat} (ha : a < 52) : a < d.l.length := by rw [h.ok.len]; exact ha
theorem IsDisk.sector {w : World} {base g : Nat} {pv : Value} {d : D.Dk} (h : IsDisk w base g pv d) {a : Nat} (ha : a < 52) : w.rangeAt g (a * 32) ((d.l.getD a []).map u8v) := by
  obtain ⟨A, C, h1, h2, h3⟩ := D.flat_split h.ok.sec (h.sec_lt ha)
  have hc := h.cells
  unfold dcells at hc
  rw [h2, List.map_append, List.map_append, List.append_assoc, List.append_assoc] at hc
  have := range_mid hc
  rw [List.length_map, h1, Nat.mul_comm] at this
  rw [getD_lt (h.sec_lt ha)]
  exact this
theorem IsDisk.sec_len {w : World} {base g : Nat} {pv : Value} {d : D.Dk} (h : IsDisk w base g pv d) {a : Nat} (ha : a < 52) : (d.l.getD a []).length = 32 := by
  rw [getD_lt (h.sec_lt ha)]
  exact h.ok.sec _ (List.getElem_mem _)
theorem IsDisk.sec_there {w : World} {base g : Nat} {pv : Value} {d : D.Dk} (h : IsDisk w base g pv d) {a : Nat} (ha : a < 52) : w.there g (a * 32) 32 := fun j hj => by
  have := h.there (a * 32 + j) (by omega)
  rwa [Nat.zero_add] at this
theorem wcells_len {v : Nat × List Nat} (h : v.2.length = 32) : (wcells v).length = 33 := by unfold wcells; simp [h]
theorem map_size {l : List Nat} {n : Nat} (h : l.length = n) : (l.map u8v).toArray.size = n := by simp [h]
theorem wcells_one (v : Nat × List Nat) : ∀ u ∈ wcells v, u.oneCell' = true := by
  intro u hu
  unfold wcells at hu
  cases hu with
  | head => rfl
  | tail _ h => exact u8v_one _ u h
theorem pcells_get {p : List (Nat × List Nat)} (h : ∀ v ∈ p, v.2.length = 32) : ∀ {k : Nat} {v : Nat × List Nat}, p[k]? = some v → ∀ j u, (wcells v)[j]? = some u → (pcells p)[k * 33 + j]? = some u := by
  induction p with
  | nil => intro k v hv; simp at hv
  | cons x p ih =>
    intro k v hv j u hu
    have hx := wcells_len (h x (.head _))
    unfold pcells
    rw [List.flatMap_cons]
    cases k with
    | zero =>
      simp at hv
      subst hv
      rw [Nat.zero_mul, Nat.zero_add, List.getElem?_append_left (List.getElem?_eq_some_iff.1 hu).1]
      exact hu
    | succ k =>
      rw [List.getElem?_append_right (by omega), hx, show (k + 1) * 33 + j - 33 = k * 33 + j by omega]
      exact ih (fun y hy => h y (.tail _ hy)) (by simpa using hv) j u hu
/-- the k-th of what is pending, where it lies -/
theorem IsDisk.pend_at {w : World} {base g n cap : Nat} {ao : Option Addr} {d : D.Dk} (h : IsDisk w base g (.slice ao n cap) d) {k : Nat} {v : Nat × List Nat} (hv : d.p[k]? = some v) :
    ∃ b, ao = some ⟨b, 0, none⟩ ∧ base ≤ b ∧ w.rangeAt b (k * 33) (wcells v) ∧ v.2.length = 32 ∧ v.1 < 52 ∧ ∀ x ∈ v.2, x < 256 := by
  have hmem : v ∈ d.p := List.mem_of_getElem? hv
  have hk : k < d.p.length := (List.getElem?_eq_some_iff.1 hv).1
  obtain ⟨hl, hp⟩ := h.pend
  rcases hp with ⟨e, h0⟩ | ⟨b, cap', cur, e, h1, h2, h3, h4, h5, h6⟩
  · omega
  · cases e
    refine ⟨b, rfl, h1, fun j u hu => ?_, h.ok.psec v hmem, h.ok.pat v hmem, h.ok.pbyt v hmem⟩
    have hg := pcells_get h.ok.psec hv j u hu
    rw [← h6] at hg
    have hlt := (List.getElem?_eq_some_iff.1 hg).1
    rw [List.length_take] at hlt
    rw [List.getElem?_take_of_lt (by omega)] at hg
    rw [cell_of_row w b (k * 33 + j) cur _ _ h2]
    simpa using hg
/-- the blocks of a disk -/
def ofD (g : Nat) (pv : Value) (b : Nat) : Prop := b = g ∨ pv.ownBlock = some b
theorem IsDisk.fr {S : Nat → Prop} {w w' : World} {base g : Nat} {pv : Value} {d : D.Dk} (h : IsDisk w base g pv d) (k : Fr S w w') (hS : ∀ b, ofD g pv b → ¬ S b) : IsDisk w' base g pv d :=
  ⟨h.ge, Nat.lt_of_lt_of_le h.lt k.size, rangeAt_fr h.cells k (hS g (.inl rfl)), there_fr h.there k (hS g (.inl rfl)), row_fr h.pend k (fun b hb => hS b (.inr hb)), h.ok, h.ap⟩
theorem IsDisk.up {w w' : World} {base g : Nat} {pv : Value} {d : D.Dk} (h : IsDisk w base g pv d) (k : Below w.heap.size w w') : IsDisk w' base g pv d := h.fr (S := fun _ => False) (Fr.of_below k) (fun _ _ => id)
theorem IsDisk.lts {w : World} {base g : Nat} {pv : Value} {d : D.Dk} (h : IsDisk w base g pv d) : ∀ b, ofD g pv b → b < w.heap.size := fun b hb => by
  rcases hb with rfl | hb
  · exact h.lt
  · exact (h.pend.lt b hb).2
theorem IsDisk.ges {w : World} {base g : Nat} {pv : Value} {d : D.Dk} (h : IsDisk w base g pv d) : ∀ b, ofD g pv b → base ≤ b := fun b hb => by
  rcases hb with rfl | hb
  · exact h.ge
  · exact (h.pend.lt b hb).1
/-- a sector is stored -/
theorem IsDisk.setSec {w : World} {base g : Nat} {pv : Value} {d : D.Dk} (h : IsDisk w base g pv d) {a : Nat} {x : List Nat} (ha : a < 52) (hx : x.length = 32) (h8 : ∀ y ∈ x, y < 256) :
    IsDisk (w.setCells g (a * 32) (x.map u8v)) base g pv { d with l := d.l.set a x } := by
  have hk := Fr.cells w g (a * 32) (x.map u8v)
  refine ⟨h.ge, Nat.lt_of_lt_of_le h.lt hk.size, ?_, World.there_setCells h.there _ _ _, row_fr h.pend hk (fun b hb e => h.ap (e ▸ hb)), D.set_ok h.ok hx h8, h.ap⟩
  obtain ⟨A, C, h1, h2, h3⟩ := D.flat_split h.ok.sec (h.sec_lt ha)
  have hc := h.cells
  unfold dcells at hc ⊢
  show World.rangeAt _ g 0 ((d.l.set a x).flatten.map u8v ++ _)
  rw [h2, List.map_append, List.map_append, List.append_assoc, List.append_assoc] at hc
  rw [h3, List.map_append, List.map_append, List.append_assoc, List.append_assoc]
  have hAl : (A.map u8v).length = a * 32 := by rw [List.length_map, h1, Nat.mul_comm]
  have hlen : (x.map u8v).length = ((d.l[a]'(h.sec_lt ha)).map u8v).length := by
    rw [List.length_map, List.length_map, hx, h.ok.sec _ (List.getElem_mem _)]
  have := range_upd (B' := x.map u8v) hc hlen (by rw [hAl, List.length_map, hx]; exact h.sec_there ha)
  rw [hAl] at this
  exact this
/-- the pending slice is stored -/
theorem obj_setPv {w : World} {g : Nat} {pv pv' : Value} {d : D.Dk} {p' : List (Nat × List Nat)} (hok : D.Ok d) (hc : w.rangeAt g 0 (dcells d pv)) (ht : w.there g 0 1666) :
    (w.setCell ⟨g, 1664, none⟩ pv').rangeAt g 0 (dcells { d with p := p' } pv') ∧ (w.setCell ⟨g, 1664, none⟩ pv').there g 0 1666 := by
  have hfl : (d.l.flatten.map u8v).length = 1664 := by rw [List.length_map, flat_len hok.sec, hok.len]
  have e : w.setCell ⟨g, 1664, none⟩ pv' = w.setCells g 1664 [pv'] := rfl
  rw [e]
  refine ⟨?_, World.there_setCells ht _ _ _⟩
  have h2 := range_upd (A := d.l.flatten.map u8v) (B := [pv]) (B' := [pv']) (C := [.bool d.f]) hc rfl (by
    intro j hj
    have hj0 : j = 0 := by simp at hj; omega
    subst hj0
    have := ht 1664 (by decide)
    rw [Nat.zero_add] at this
    rw [hfl]
    exact this)
  rw [hfl] at h2
  exact h2
theorem IsDisk.setPv {w : World} {base g : Nat} {pv pv' : Value} {d : D.Dk} {p' : List (Nat × List Nat)} (hge : base ≤ g) (hlt : g < w.heap.size) (hok : D.Ok d) (hc : w.rangeAt g 0 (dcells d pv)) (ht : w.there g 0 1666)
    (hrow : w.ownsRow base 82 33 pv' p'.length (pcells p')) (hap : pv'.ownBlock ≠ some g) (hok' : D.Ok { d with p := p' }) : IsDisk (w.setCell ⟨g, 1664, none⟩ pv') base g pv' { d with p := p' } := by
  obtain ⟨h1, h2⟩ := obj_setPv (pv' := pv') (p' := p') hok hc ht
  refine ⟨hge, Nat.lt_of_lt_of_le hlt (Fr.cell (w := w) ⟨g, 1664, none⟩ pv').size, h1, h2, row_fr hrow (Fr.cell _ _) (fun b hb e => hap (by rw [hb]; exact congrArg some e)), hok', hap⟩
theorem IsDisk.clearPv {w : World} {base g : Nat} {pv : Value} {d : D.Dk} (h : IsDisk w base g pv d) : IsDisk (w.setCell ⟨g, 1664, none⟩ (.slice none 0 0)) base g (.slice none 0 0) { d with p := [] } :=
  IsDisk.setPv h.ge h.lt h.ok h.cells h.there (World.ownsRow_nil _ _ _ _) (by intro e; cases e) ⟨h.ok.len, h.ok.sec, h.ok.byt, (fun w hw => by cases hw), (fun w hw => by cases hw), (fun w hw => by cases hw)⟩
theorem obj_pv {w : World} {g : Nat} {pv : Value} {d : D.Dk} (hok : D.Ok d) (hc : w.rangeAt g 0 (dcells d pv)) : w.cell? ⟨g, 1664, none⟩ = some pv := by
  have hfl : (d.l.flatten.map u8v).length = 1664 := by rw [List.length_map, flat_len hok.sec, hok.len]
  have := hc 1664 pv (by unfold dcells; rw [List.getElem?_append_right (by rw [hfl]; exact Nat.le_refl _), hfl]; rfl)
  simpa using this
theorem dcells_len {pv : Value} {d : D.Dk} (hok : D.Ok d) : (dcells d pv).length = 1666 := by
  unfold dcells
  rw [List.length_append, List.length_map, flat_len hok.sec, hok.len]
  rfl
end Go.Proofs.Ytggljcdkiaggeaa
