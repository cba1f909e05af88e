/- Merged: Disk, DiskQ, DiskRead, DiskB, DiskNew. -/
import Derived.Test.YtenjpldinnbcbaaDiskP
import Derived.Test.YtenjpldinnbcbaaKeep
import Derived.Test.YtenjpldinnbcbaaMoreF
import Derived.Deep.WholeRow
import Derived.Laws.Cover3
/- The walks of package disk. -/

namespace Go.Proofs.Ytenjpldinnbcbaa
open Go.RowKit
set_option linter.unusedVariables false
set_option linter.unusedSimpArgs false
set_option maxRecDepth 100000
set_option maxHeartbeats 1000000

/-- a disk in memory: its object g, its pending slice pv -/
structure IsDisk (w : World) (base g : Nat) (pv : Value) (d : D.Dk) : Prop where
  ge : base ≤ g
  lt : g < w.heap.size
  cells : w.rangeAt g 0 (dcells d pv)
  there : w.there g 0 1666
  pend : w.ownsRow base 141 33 pv d.p.length (pcells d.p)
  ok : D.Ok d
  ap : pv.ownBlock ≠ some g
theorem flat_len {l : List (List Nat)} {n : Nat} (h : ∀ s ∈ l, s.length = n) : l.flatten.length = n * l.length := by
  induction l with
  | nil => simp
  | cons a l ih =>
    rw [List.flatten_cons, List.length_append, ih (fun s hs => h s (.tail _ hs)), h a (.head _), List.length_cons, Nat.mul_add]
    omega
theorem IsDisk.flat {w : World} {base g : Nat} {pv : Value} {d : D.Dk} (h : IsDisk w base g pv d) : (d.l.flatten.map u8v).length = 1664 := by
  rw [List.length_map, flat_len h.ok.sec, h.ok.len]
theorem IsDisk.pv_cell {w : World} {base g : Nat} {pv : Value} {d : D.Dk} (h : IsDisk w base g pv d) : w.cell? ⟨g, 1664, none⟩ = some pv := by
  have := h.cells 1664 pv (by unfold dcells; rw [List.getElem?_append_right (by rw [h.flat]; exact Nat.le_refl _), h.flat]; rfl)
  simpa using this
theorem IsDisk.f_cell {w : World} {base g : Nat} {pv : Value} {d : D.Dk} (h : IsDisk w base g pv d) : w.cell? ⟨g, 1665, none⟩ = some (.bool d.f) := by
  have := h.cells 1665 (.bool d.f) (by unfold dcells; rw [List.getElem?_append_right (by rw [h.flat]; decide), h.flat]; rfl)
  simpa using this
theorem may_any (w : World) (base g : Nat) (pv : Value) (d : D.Dk) (at' : Int) (h : IsDisk w base g pv d) :
    Calls Try.prog 98 #[.pointer (some ⟨g, 0, none⟩), .int .i64 at'] w fun e w' => e = .returned (.int .i64 (D.may d at')) ∧ w = w' := by
  have hf := h.f_cell
  by_cases hd : d.f = true
  · have HE : Hid (D.may d at' = 5) := by show _ = _; unfold D.may; rw [if_pos hd]
    rw [hd] at hf
    clear hd
    go_enter Try.func98, Try.ntmps98
    go_wp2
    go_ret
    exact ⟨by rw [HE.out]; rfl, rfl⟩
  · have hd : d.f = false := by simpa using hd
    rw [hd] at hf
    by_cases ha : at' < 0 ∨ 52 ≤ at'
    · have HE : Hid (D.may d at' = 4) := by show _ = _; unfold D.may; rw [hd, if_pos ha]; rfl
      clear hd
      rcases ha with ha | ha
      · go_enter Try.func98, Try.ntmps98
        go_wp2
        go_ret
        exact ⟨by rw [HE.out]; rfl, rfl⟩
      · go_enter Try.func98, Try.ntmps98
        go_wp2
        go_ret
        exact ⟨by rw [HE.out]; rfl, rfl⟩
    · have HE : Hid (D.may d at' = 0) := by show _ = _; unfold D.may; rw [hd, if_neg ha]; rfl
      have h1 : 0 ≤ at' := by omega
      have h2 : at' < 52 := by omega
      clear hd ha
      go_enter Try.func98, Try.ntmps98
      go_wp2
      go_ret
      exact ⟨by rw [HE.out]; rfl, rfl⟩
end Go.Proofs.Ytenjpldinnbcbaa
/- The walks of disk.Pending and disk.Failed, which change nothing. -/

namespace Go.Proofs.Ytenjpldinnbcbaa
open Go.RowKit
set_option linter.unusedVariables false
set_option linter.unusedSimpArgs false
set_option maxRecDepth 100000
set_option maxHeartbeats 1000000

theorem IsDisk.pshape {w : World} {base g : Nat} {pv : Value} {d : D.Dk} (h : IsDisk w base g pv d) : ∃ ao cap, pv = .slice ao d.p.length cap ∧ d.p.length ≤ cap ∧ cap ≤ 9223372036854775807 := by
  rcases h.pend.2 with ⟨e, hn⟩ | ⟨b, cap, cur, e, _, _, h1, h2, _⟩
  · exact ⟨none, 0, by rw [e, hn], by omega, by decide⟩
  · exact ⟨_, cap, e, h1, h2⟩
theorem pending_any (w : World) (base g : Nat) (pv : Value) (d : D.Dk) (h : IsDisk w base g pv d) :
    Calls Try.prog 62 #[.pointer (some ⟨g, 0, none⟩)] w fun e w' => e = .returned (.int .i64 (d.p.length : Nat)) ∧ w = w' := by
  have hp := h.pv_cell
  obtain ⟨ao, cap, rfl, _, _⟩ := h.pshape
  go_enter Try.func62, Try.ntmps62
  go_wp2
  go_ret
  exact ⟨rfl, rfl⟩
theorem failed_any (w : World) (base g : Nat) (pv : Value) (d : D.Dk) (h : IsDisk w base g pv d) :
    Calls Try.prog 85 #[.pointer (some ⟨g, 0, none⟩)] w fun e w' => e = .returned (.bool d.f) ∧ w = w' := by
  have hf := h.f_cell
  go_enter Try.func85, Try.ntmps85
  go_wp2
  go_ret
  exact ⟨rfl, rfl⟩
end Go.Proofs.Ytenjpldinnbcbaa
/- The walk of disk.Read (under way). -/

namespace Go.Proofs.Ytenjpldinnbcbaa
open Go.RowKit
set_option linter.unusedVariables false
set_option linter.unusedSimpArgs false
set_option maxRecDepth 100000
set_option maxHeartbeats 1000000

theorem clone_bytes (v : Value) (l : List Nat) (w : World) (h : Byt w v l) (hl : l.length = 32) :
    Calls Try.prog 99 #[v] w fun e w' => ∃ v', e = .returned v' ∧ Own w' w.heap.size v' l ∧ Below w.heap.size w w' := by
  obtain ⟨j0, hj, hy0, hy1, hy2⟩ := info_parts uint8_info
  obtain ⟨ao, cap, rfl, hc1, hc2⟩ := h.shape
  obtain ⟨b, off, x, rfl, _, _, _⟩ := h.get (k := 0) (by omega)
  have HL := Lib.hid hl
  have hu := Try.underlying48
  have hq : ∀ (n : Nat) (w : World), (binOp .eql 48 (.slice (some ⟨b, off, none⟩) n cap) (.slice none 0 0)).run Try.prog w = .ok (.bool false) w := fun n w => by simp only [binOp]; simp [run_equal_slice_nil w _ _ _ _ _ hu, Result.andThen]
  go_enter Try.func99, Try.ntmps99
  have HO : Hid (Own (w.alloc (.cells #[] 5)) w.heap.size (.slice (some ⟨w.heap.size, 0, none⟩) 0 0) []) :=
    Lib.hid ⟨(fun x hx => by cases hx), rfl, .inr ⟨w.heap.size, 0, #[], rfl, Nat.le_refl _, heap_alloc_new w _, Nat.le_refl _, by decide, rfl, rfl⟩⟩
  have HB := Lib.hid h
  clear h hl
  go_wp2_with (at_builtin; go_loud (refine wpList_append_bytes rfl _ _ 48 rfl j0 hu hj hy0 hy1 hy2 w.heap.size _ [] rfl HO.out _ _ rfl HB.out.alloc (by have := HL.out; simp; omega) (by simp) ?_); intro v' w1 hown hgrow)
  go_ret
  exact ⟨_, rfl, by simpa using hown, (belA1 (belR w)).grown hgrow (by simp) (fun g hg => by cases hg; exact Nat.le_refl _)⟩
theorem read_no (w : World) (base g : Nat) (pv : Value) (d : D.Dk) (at' : Int) (h : IsDisk w base g pv d) (hm : D.may d at' ≠ 0) :
    Calls Try.prog 65 #[.pointer (some ⟨g, 0, none⟩), .int .i64 at'] w fun e w' => e = .returned (.tuple #[.slice none 0 0, .int .i64 (D.may d at')]) ∧ w = w' := by
  obtain ⟨m, hmm⟩ : ∃ m, m = D.may d at' := ⟨_, rfl⟩
  have hc := may_any w base g pv d at' h
  rw [← hmm] at hc hm ⊢
  have hb : (m != 0) = true := by rw [bne_iff_ne]; exact hm
  have HC := Lib.hid hc
  clear hmm hc hm
  go_enter Try.func65, Try.ntmps65
  go_wp2_with fail
  refine Calls.mono HC.out ?_
  rintro e w1 ⟨rfl, rfl⟩
  go_wp2
  go_ret2
  exact ⟨rfl, rfl⟩
end Go.Proofs.Ytenjpldinnbcbaa
/- A disk in memory: its sectors, its pending writes, what keeps it. -/

namespace Go.Proofs.Ytenjpldinnbcbaa
open Go.RowKit
set_option linter.unusedVariables false
set_option linter.unusedSimpArgs false
set_option maxRecDepth 100000
set_option maxHeartbeats 1000000

theorem sec_info : (Try.prog.info? 131).map (fun i => (i.zero, i.size)) = some (some (.agg (List.replicate 32 (u8v 0)).toArray), 32) := by kernel_rfl
theorem write_info : (Try.prog.info? 141).map (fun i => (i.zero, i.size)) = some (some (.agg (wcells (0, List.replicate 32 0)).toArray), 33) := by kernel_rfl
theorem getD_lt {α : Type} {l : List α} {a : Nat} {d : α} (h : a < l.length) : l.getD a d = l[a] := by simp [List.getD, h]
theorem IsDisk.sec_lt {w : World} {base g : Nat} {pv : Value} {d : D.Dk} (h : IsDisk w base g pv d) {a : Nat} (ha : a < 52) : a < d.l.length := by rw [h.ok.len]; exact ha
theorem IsDisk.sector {w : World} {base g : Nat} {pv : Value} {d : D.Dk} (h : IsDisk w base g pv d) {a : Nat} (ha : a < 52) : w.rangeAt g (a * 32) ((d.l.getD a []).map u8v) := by
  obtain ⟨A, C, h1, h2, h3⟩ := D.flat_split h.ok.sec (h.sec_lt ha)
  have hc := h.cells
  unfold dcells at hc
  rw [h2, List.map_append, List.map_append, List.append_assoc, List.append_assoc] at hc
  have := range_mid hc
  rw [List.length_map, h1, Nat.mul_comm] at this
  rw [getD_lt (h.sec_lt ha)]
  exact this
theorem IsDisk.sec_len {w : World} {base g : Nat} {pv : Value} {d : D.Dk} (h : IsDisk w base g pv d) {a : Nat} (ha : a < 52) : (d.l.getD a []).length = 32 := by
  rw [getD_lt (h.sec_lt ha)]
  exact h.ok.sec _ (List.getElem_mem _)
theorem IsDisk.sec_there {w : World} {base g : Nat} {pv : Value} {d : D.Dk} (h : IsDisk w base g pv d) {a : Nat} (ha : a < 52) : w.there g (a * 32) 32 := fun j hj => by
  have := h.there (a * 32 + j) (by omega)
  rwa [Nat.zero_add] at this
theorem wcells_len {v : Nat × List Nat} (h : v.2.length = 32) : (wcells v).length = 33 := by unfold wcells; simp [h]
theorem map_size {l : List Nat} {n : Nat} (h : l.length = n) : (l.map u8v).toArray.size = n := by simp [h]
theorem wcells_one (v : Nat × List Nat) : ∀ u ∈ wcells v, u.oneCell' = true := by
  intro u hu
  unfold wcells at hu
  cases hu with
  | head => rfl
  | tail _ h => exact u8v_one _ u h
theorem pcells_get {p : List (Nat × List Nat)} (h : ∀ v ∈ p, v.2.length = 32) : ∀ {k : Nat} {v : Nat × List Nat}, p[k]? = some v → ∀ j u, (wcells v)[j]? = some u → (pcells p)[k * 33 + j]? = some u := by
  induction p with
  | nil => intro k v hv; simp at hv
  | cons x p ih =>
    intro k v hv j u hu
    have hx := wcells_len (h x (.head _))
    unfold pcells
    rw [List.flatMap_cons]
    cases k with
    | zero =>
      simp at hv
      subst hv
      rw [Nat.zero_mul, Nat.zero_add, List.getElem?_append_left (List.getElem?_eq_some_iff.1 hu).1]
      exact hu
    | succ k =>
      rw [List.getElem?_append_right (by omega), hx, show (k + 1) * 33 + j - 33 = k * 33 + j by omega]
      exact ih (fun y hy => h y (.tail _ hy)) (by simpa using hv) j u hu
/-- the k-th of what is pending, where it lies -/
theorem IsDisk.pend_at {w : World} {base g n cap : Nat} {ao : Option Addr} {d : D.Dk} (h : IsDisk w base g (.slice ao n cap) d) {k : Nat} {v : Nat × List Nat} (hv : d.p[k]? = some v) :
    ∃ b, ao = some ⟨b, 0, none⟩ ∧ base ≤ b ∧ w.rangeAt b (k * 33) (wcells v) ∧ v.2.length = 32 ∧ v.1 < 52 ∧ ∀ x ∈ v.2, x < 256 := by
  have hmem : v ∈ d.p := List.mem_of_getElem? hv
  have hk : k < d.p.length := (List.getElem?_eq_some_iff.1 hv).1
  obtain ⟨hl, hp⟩ := h.pend
  rcases hp with ⟨e, h0⟩ | ⟨b, cap', cur, e, h1, h2, h3, h4, h5, h6⟩
  · omega
  · cases e
    refine ⟨b, rfl, h1, fun j u hu => ?_, h.ok.psec v hmem, h.ok.pat v hmem, h.ok.pbyt v hmem⟩
    have hg := pcells_get h.ok.psec hv j u hu
    rw [← h6] at hg
    have hlt := (List.getElem?_eq_some_iff.1 hg).1
    rw [List.length_take] at hlt
    rw [List.getElem?_take_of_lt (by omega)] at hg
    rw [cell_of_row w b (k * 33 + j) cur _ _ h2]
    simpa using hg
/-- the blocks of a disk -/
def ofD (g : Nat) (pv : Value) (b : Nat) : Prop := b = g ∨ pv.ownBlock = some b
theorem IsDisk.fr {S : Nat → Prop} {w w' : World} {base g : Nat} {pv : Value} {d : D.Dk} (h : IsDisk w base g pv d) (k : Fr S w w') (hS : ∀ b, ofD g pv b → ¬ S b) : IsDisk w' base g pv d :=
  ⟨h.ge, Nat.lt_of_lt_of_le h.lt k.size, rangeAt_fr h.cells k (hS g (.inl rfl)), there_fr h.there k (hS g (.inl rfl)), row_fr h.pend k (fun b hb => hS b (.inr hb)), h.ok, h.ap⟩
theorem IsDisk.up {w w' : World} {base g : Nat} {pv : Value} {d : D.Dk} (h : IsDisk w base g pv d) (k : Below w.heap.size w w') : IsDisk w' base g pv d := h.fr (S := fun _ => False) (Fr.of_below k) (fun _ _ => id)
theorem IsDisk.lts {w : World} {base g : Nat} {pv : Value} {d : D.Dk} (h : IsDisk w base g pv d) : ∀ b, ofD g pv b → b < w.heap.size := fun b hb => by
  rcases hb with rfl | hb
  · exact h.lt
  · exact (h.pend.lt b hb).2
theorem IsDisk.ges {w : World} {base g : Nat} {pv : Value} {d : D.Dk} (h : IsDisk w base g pv d) : ∀ b, ofD g pv b → base ≤ b := fun b hb => by
  rcases hb with rfl | hb
  · exact h.ge
  · exact (h.pend.lt b hb).1
/-- a sector is stored -/
theorem IsDisk.setSec {w : World} {base g : Nat} {pv : Value} {d : D.Dk} (h : IsDisk w base g pv d) {a : Nat} {x : List Nat} (ha : a < 52) (hx : x.length = 32) (h8 : ∀ y ∈ x, y < 256) :
    IsDisk (w.setCells g (a * 32) (x.map u8v)) base g pv { d with l := d.l.set a x } := by
  have hk := Fr.cells w g (a * 32) (x.map u8v)
  refine ⟨h.ge, Nat.lt_of_lt_of_le h.lt hk.size, ?_, World.there_setCells h.there _ _ _, row_fr h.pend hk (fun b hb e => h.ap (e ▸ hb)), D.set_ok h.ok hx h8, h.ap⟩
  obtain ⟨A, C, h1, h2, h3⟩ := D.flat_split h.ok.sec (h.sec_lt ha)
  have hc := h.cells
  unfold dcells at hc ⊢
  show World.rangeAt _ g 0 ((d.l.set a x).flatten.map u8v ++ _)
  rw [h2, List.map_append, List.map_append, List.append_assoc, List.append_assoc] at hc
  rw [h3, List.map_append, List.map_append, List.append_assoc, List.append_assoc]
  have hAl : (A.map u8v).length = a * 32 := by rw [List.length_map, h1, Nat.mul_comm]
  have hlen : (x.map u8v).length = ((d.l[a]'(h.sec_lt ha)).map u8v).length := by
    rw [List.length_map, List.length_map, hx, h.ok.sec _ (List.getElem_mem _)]
  have := range_upd (B' := x.map u8v) hc hlen (by rw [hAl, List.length_map, hx]; exact h.sec_there ha)
  rw [hAl] at this
  exact this
/-- the pending slice is stored -/
theorem obj_setPv {w : World} {g : Nat} {pv pv' : Value} {d : D.Dk} {p' : List (Nat × List Nat)} (hok : D.Ok d) (hc : w.rangeAt g 0 (dcells d pv)) (ht : w.there g 0 1666) :
    (w.setCell ⟨g, 1664, none⟩ pv').rangeAt g 0 (dcells { d with p := p' } pv') ∧ (w.setCell ⟨g, 1664, none⟩ pv').there g 0 1666 := by
  have hfl : (d.l.flatten.map u8v).length = 1664 := by rw [List.length_map, flat_len hok.sec, hok.len]
  have e : w.setCell ⟨g, 1664, none⟩ pv' = w.setCells g 1664 [pv'] := rfl
  rw [e]
  refine ⟨?_, World.there_setCells ht _ _ _⟩
  have h2 := range_upd (A := d.l.flatten.map u8v) (B := [pv]) (B' := [pv']) (C := [.bool d.f]) hc rfl (by
    intro j hj
    have hj0 : j = 0 := by simp at hj; omega
    subst hj0
    have := ht 1664 (by decide)
    rw [Nat.zero_add] at this
    rw [hfl]
    exact this)
  rw [hfl] at h2
  exact h2
theorem IsDisk.setPv {w : World} {base g : Nat} {pv pv' : Value} {d : D.Dk} {p' : List (Nat × List Nat)} (hge : base ≤ g) (hlt : g < w.heap.size) (hok : D.Ok d) (hc : w.rangeAt g 0 (dcells d pv)) (ht : w.there g 0 1666)
    (hrow : w.ownsRow base 141 33 pv' p'.length (pcells p')) (hap : pv'.ownBlock ≠ some g) (hok' : D.Ok { d with p := p' }) : IsDisk (w.setCell ⟨g, 1664, none⟩ pv') base g pv' { d with p := p' } := by
  obtain ⟨h1, h2⟩ := obj_setPv (pv' := pv') (p' := p') hok hc ht
  refine ⟨hge, Nat.lt_of_lt_of_le hlt (Fr.cell (w := w) ⟨g, 1664, none⟩ pv').size, h1, h2, row_fr hrow (Fr.cell _ _) (fun b hb e => hap (by rw [hb]; exact congrArg some e)), hok', hap⟩
theorem IsDisk.clearPv {w : World} {base g : Nat} {pv : Value} {d : D.Dk} (h : IsDisk w base g pv d) : IsDisk (w.setCell ⟨g, 1664, none⟩ (.slice none 0 0)) base g (.slice none 0 0) { d with p := [] } :=
  IsDisk.setPv h.ge h.lt h.ok h.cells h.there (World.ownsRow_nil _ _ _ _) (by intro e; cases e) ⟨h.ok.len, h.ok.sec, h.ok.byt, (fun w hw => by cases hw), (fun w hw => by cases hw), (fun w hw => by cases hw)⟩
theorem obj_pv {w : World} {g : Nat} {pv : Value} {d : D.Dk} (hok : D.Ok d) (hc : w.rangeAt g 0 (dcells d pv)) : w.cell? ⟨g, 1664, none⟩ = some pv := by
  have hfl : (d.l.flatten.map u8v).length = 1664 := by rw [List.length_map, flat_len hok.sec, hok.len]
  have := hc 1664 pv (by unfold dcells; rw [List.getElem?_append_right (by rw [hfl]; exact Nat.le_refl _), hfl]; rfl)
  simpa using this
theorem dcells_len {pv : Value} {d : D.Dk} (hok : D.Ok d) : (dcells d pv).length = 1666 := by
  unfold dcells
  rw [List.length_append, List.length_map, flat_len hok.sec, hok.len]
  rfl
end Go.Proofs.Ytenjpldinnbcbaa
/- The walk of disk.New. -/

namespace Go.Proofs.Ytenjpldinnbcbaa
open Go.RowKit
set_option linter.unusedVariables false
set_option linter.unusedSimpArgs false
set_option maxRecDepth 100000
set_option maxHeartbeats 1000000

theorem disk_info : (Try.prog.info? 135).map (fun i => (i.zero, i.size)) = some (some (.agg (dcells D.blank (.slice none 0 0)).toArray), 1666) := by kernel_rfl
theorem new_any (w : World) : Calls Try.prog 52 #[] w fun e w' => e = .returned (.pointer (some ⟨w.heap.size, 0, none⟩)) ∧ w' = w.alloc (.cells (dcells D.blank (.slice none 0 0)).toArray 135) := by
  obtain ⟨hz, hs⟩ := zero_of_info disk_info
  obtain ⟨Z, hZ⟩ : ∃ Z, Z = (dcells D.blank (.slice none 0 0)).toArray := ⟨_, rfl⟩
  rw [← hZ] at hz ⊢
  have hsz : Z.size = 1666 := by rw [hZ]; decide +kernel
  clear hZ
  go_enter Try.func52, Try.ntmps52
  go_wp2
  go_ret
  exact ⟨rfl, rfl⟩
theorem range_whole {w : World} {g : Nat} {cs : List Value} {t : TypeId} {fr : Nat × Nat} (h : w.heap[g]? = some (.cells cs.toArray t fr)) : w.rangeAt g 0 cs := fun j v hv => by
  rw [Nat.zero_add, cell_of_row w g j _ t fr h]
  simpa using hv
theorem new_disk {w : World} {base : Nat} (hb : base ≤ w.heap.size) : IsDisk (w.alloc (.cells (dcells D.blank (.slice none 0 0)).toArray 135)) base w.heap.size (.slice none 0 0) D.blank := by
  have hh := heap_alloc_new w (.cells (dcells D.blank (.slice none 0 0)).toArray 135)
  refine ⟨hb, by simp, range_whole hh, ?_, World.ownsRow_nil _ _ _ _, D.blank_ok, by intro e; cases e⟩
  intro j hj
  have hl : (dcells D.blank (.slice none 0 0)).toArray.size = 1666 := by decide +kernel
  refine ⟨?_, ?_⟩
  · rw [Nat.zero_add, cell_of_row _ _ j _ _ _ hh, Array.getElem?_eq_getElem (by omega)]
    rfl
  · unfold World.frozen?
    show (match (w.alloc _).heap[w.heap.size]? with | some (.cells _ _ (lo, hi)) => _ | _ => _) = _
    rw [hh]
    simp
end Go.Proofs.Ytenjpldinnbcbaa
