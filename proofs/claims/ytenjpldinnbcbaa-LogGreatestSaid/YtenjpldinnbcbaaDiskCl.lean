/- The walk of disk's Clone. -/
import Derived.Test.YtenjpldinnbcbaaDiskB
import Derived.Laws.Cover3
namespace Go.Proofs.Ytenjpldinnbcbaa
open Go.RowKit
set_option linter.unusedVariables false
set_option linter.unusedSimpArgs false
set_option maxRecDepth 100000
set_option maxHeartbeats 1000000

theorem disk_size2 : (Try.prog.info? 135).map (·.size) = some 1666 := by kernel_rfl
theorem write_all : (Try.prog.info? 141).map (fun i => (i.zero, i.size, i.bytes)) = some (some (.agg (wcells (0, List.replicate 32 0)).toArray), 33, 40) := by kernel_rfl
theorem pcells_len {p : List (Nat × List Nat)} (h : ∀ v ∈ p, v.2.length = 32) : (pcells p).length = p.length * 33 := by
  induction p with
  | nil => rfl
  | cons v p ih =>
    unfold pcells at ih ⊢
    rw [List.flatMap_cons, List.length_append, wcells_len (h v (.head _)), ih (fun x hx => h x (.tail _ hx)), List.length_cons]
    omega
theorem pcells_one (p : List (Nat × List Nat)) : ∀ u ∈ pcells p, u.oneCell' = true := by
  intro u hu
  obtain ⟨v, _, h⟩ := List.mem_flatMap.1 hu
  exact wcells_one v u h
theorem pcells_append (p q : List (Nat × List Nat)) : pcells (p ++ q) = pcells p ++ pcells q := by unfold pcells; rw [List.flatMap_append]
/-- slices.Clone of writes -/
theorem clone_writes (v : Value) (p : List (Nat × List Nat)) (base : Nat) (w : World) (h : w.ownsRow base 141 33 v p.length (pcells p)) (hok : ∀ x ∈ p, x.2.length = 32) (hb : p.length * 40 ≤ 140737488355328) :
    Calls Try.prog 108 #[v] w fun e w' => ∃ v', e = .returned v' ∧ w'.ownsRow w.heap.size 141 33 v' p.length (pcells p) ∧ Below w.heap.size w w' := by
  obtain ⟨j0, hj, hy0, hy1, hy2⟩ := info_parts write_all
  have hu := Try.underlying133
  rcases h.2 with ⟨rfl, h0⟩ | ⟨g, cap, cur, rfl, _, hg, h1, h2, _, _⟩
  · have hp : p = [] := List.eq_nil_of_length_eq_zero h0
    subst hp
    have hq : ∀ (w : World), (binOp .eql 133 (.slice none 0 0) (.slice none 0 0)).run Try.prog w = .ok (.bool true) w := fun w => by simp only [binOp]; simp [run_equal_slice_nil w _ _ _ _ _ hu, Result.andThen]
    clear h
    go_enter Try.func108, Try.ntmps108
    go_wp2
    go_ret
    exact ⟨_, rfl, World.ownsRow_nil _ _ _ _, belR w⟩
  · have hq : ∀ (n : Nat) (w : World), (binOp .eql 133 (.slice (some ⟨g, 0, none⟩) n cap) (.slice none 0 0)).run Try.prog w = .ok (.bool false) w := fun n w => by simp only [binOp]; simp [run_equal_slice_nil w _ _ _ _ _ hu, Result.andThen]
    have HA : Hid (At (w.alloc (.cells #[] 141)) (some ⟨g, 0, none⟩) (pcells p)) := (At.of_own (row_fr h (Fr.alloc (S := fun _ => False) w _) (fun _ _ => id)))
    have HO : Hid ((w.alloc (.cells #[] 141)).ownsRow w.heap.size 141 33 (.slice (some ⟨w.heap.size, 0, none⟩) 0 0) 0 []) :=
      Lib.hid ⟨rfl, .inr ⟨w.heap.size, 0, #[], rfl, Nat.le_refl _, heap_alloc_new w _, Nat.le_refl _, by decide, rfl, rfl⟩⟩
    have HL := Lib.hid (pcells_len hok)
    have HB := Lib.hid hb
    clear h hg
    go_enter Try.func108, Try.ntmps108
    go_wp2_with (at_builtin; go_loud (refine wpList_append_at rfl _ _ 133 rfl w.heap.size 141 j0 _ 33 40 hu hj hy0 hy1 hy2 rfl (by decide) _ 0 [] rfl HO.out _ p.length cap (pcells p) rfl (fun e => by cases e) h1 HL.out HA.out (pcells_one p) (by have := HB.out; simp [maxLen]; omega) (by have := HB.out; omega) (by simp) ?_); intro v' w1 hown hgrow _)
    go_ret
    exact ⟨_, rfl, by simpa using hown, (belA1 (belR w)).grown hgrow (by simp) (fun g hg => by cases hg; exact Nat.le_refl _)⟩
theorem dclone_any (w : World) (base g : Nat) (pv : Value) (d : D.Dk) (h : IsDisk w base g pv d) (hb : d.p.length * 40 ≤ 140737488355328) :
    Calls Try.prog 81 #[.pointer (some ⟨g, 0, none⟩)] w fun e w' => ∃ pv', e = .returned (.pointer (some ⟨w.heap.size, 0, none⟩)) ∧ IsDisk w' w.heap.size w.heap.size pv' d ∧ Below w.heap.size w w' := by
  have hz : ∃ Z : Array Value, Z.size = 1666 ∧ ∀ w, (zeroValue 135).run Try.prog w = .ok (.agg Z) w := by
    obtain ⟨hz, hs⟩ := zero_of_info disk_info
    exact ⟨_, by decide +kernel, hz⟩
  obtain ⟨Z, hZ, hz⟩ := hz
  obtain ⟨C, hC⟩ : ∃ C, C = dcells d pv := ⟨_, rfl⟩
  have hl : C.length = 1666 := by
    rw [hC]
    unfold dcells
    rw [List.length_append, h.flat]
    rfl
  have h1 : ∀ u ∈ C, u.oneCell' = true := by
    rw [hC]
    unfold dcells
    intro u hu
    rcases List.mem_append.1 hu with h1 | h1
    · exact u8v_one _ u h1
    · cases h1 with
      | head => obtain ⟨ao, cap, rfl, _⟩ := h.pshape; rfl
      | tail _ h1 => rw [List.mem_singleton.1 h1]; rfl
  have HS : Hid (C.toArray.size = 1666) := by show C.toArray.size = 1666; rw [List.size_toArray]; exact hl
  have HLen := Lib.hid hl
  have HZ := Lib.hid hZ
  have H1 := Lib.hid h1
  have HSz := Lib.hid disk_size2
  have HR : Hid (w.rangeAt g 0 C) := by rw [hC]; exact h.cells
  obtain ⟨W2, hW2⟩ : ∃ W2, W2 = w.alloc (.cells C.toArray 135) := ⟨_, rfl⟩
  have HW2 := Lib.hid hW2
  have hsz : W2.heap.size = w.heap.size + 1 := by rw [hW2]; simp
  have HD : Hid (IsDisk W2 base g pv d) := by rw [hW2]; exact h.up (belA1 (belR w))
  have HB : Hid (Below w.heap.size w W2) := by rw [hW2]; exact belA1 (belR w)
  have HX : Hid (Box W2 w.heap.size (dcells d pv)) := by rw [hW2, ← hC]; exact Box.new w C _
  have hpv := HD.out.pv_cell
  have HBb := Lib.hid hb
  have HH := Lib.hid h
  obtain ⟨ao, cap, rfl, _, _⟩ := h.pshape
  clear hC hl h1 h hW2 hZ hb
  go_enter Try.func81, Try.ntmps81
  go_wp2_with (first
    | (refine wpList_load_mid rfl 135 _ rfl g 0 rfl C _ HR.out Try.underlying135 rfl (by rw [HLen.out]; exact HSz.out) ?_)
    | (refine wpList_store_new rfl 135 _ _ rfl w.heap.size w rfl Z C.toArray rfl rfl rfl (by rw [HS.out]; exact HSz.out) (by rw [HZ.out, HS.out]) (all_oneCell_toArray H1.out) ?_; rw [← HW2.out])
    | (refine Calls.mono (clone_writes _ d.p base _ HD.out.pend HD.out.ok.psec HBb.out) ?_; rintro e w3 ⟨v3, rfl, hO3, hb3⟩; obtain ⟨ao3, cap3, rfl⟩ := row_shape hO3; have hX3 := HX.out.fr (Fr.of_below (S := fun _ => False) hb3) id; have hc3 := obj_pv HH.out.ok hX3.range; have ht3 : w3.there w.heap.size 0 1666 := (by have := hX3.there; rw [dcells_len HH.out.ok] at this; exact this); have hz3 := there_frozen (o := 1664) ht3 (by decide); have HT3 := Lib.hid ht3; have HX3 := Lib.hid hX3; have HO3 := Lib.hid hO3; clear hX3 ht3 hO3)
    | fail)
  go_ret
  have hb23 := HB.out.trans (hb3.mono (by omega))
  refine ⟨.slice ao3 d.p.length cap3, rfl, ?_, (Fr.below (S := fun b => b = w.heap.size) hb23 (Fr.cell (w := w3) ⟨w.heap.size, 1664, none⟩ _) hb23.size (fun i hi => by omega))⟩
  refine IsDisk.setPv (d := d) (p' := d.p) (Nat.le_refl _) (Nat.lt_of_lt_of_le (by omega) hb3.size) HH.out.ok HX3.out.range HT3.out ⟨HO3.out.1, ?_⟩ ?_ HH.out.ok
  · rcases HO3.out.2 with h1 | ⟨g3, c3, cur3, e3, h2, h3⟩
    · exact .inl h1
    · exact .inr ⟨g3, c3, cur3, e3, by omega, h3⟩
  · intro e
    have := (HO3.out.lt _ e).1
    omega
end Go.Proofs.Ytenjpldinnbcbaa
