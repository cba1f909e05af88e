/- The walks of the reference's Check, Budget, Width of geometries. -/
import Derived.Test.YtknodcaknopcnaaGeom2
namespace Go.Proofs.Ytknodcaknopcnaa
open Go.RowKit
set_option linter.unusedVariables false
set_option linter.unusedSimpArgs false
set_option maxRecDepth 100000
set_option maxHeartbeats 2000000

theorem refgcheck_any (l d c : Int) (w : World) (hl : i64b l) (hd : i64b d) (hc : i64b c) :
    Calls Try.prog 43 #[.agg #[.int .i64 l, .int .i64 d, .int .i64 c]] w fun e w' => e = .returned (.bool (Geo.mk l d c).ok) ∧ Below w.heap.size w w' := by
  obtain ⟨v, hv⟩ : ∃ v, (Geo.mk l d c).ok = v := ⟨_, rfl⟩
  have key : v = true ↔ (l = 5 ∧ 3 ≤ d ∨ l = 6 ∧ 4 ≤ d) ∧ d ≤ 8 ∧ (c = 1 ∨ c = 2 ∨ c = 4) := by
    rw [← hv, Geo.ok_iff]
  rw [hv]
  have KEY := Lib.hid key
  clear key hv
  go_enter Try.func43, Try.ntmps43
  go_wp2_with fail
  all_goals
    go_ret
    refine ⟨ret_bool ?_, belA1 (belR _)⟩
    rw [Bool.eq_iff_iff, KEY.out]
    first
      | (simp only [Bool.or_eq_true, beq_iff_eq, true_iff, Bool.false_eq_true, false_iff] at *; omega)
      | (simp only [Bool.or_eq_true, beq_iff_eq, beq_eq_false_iff_ne, ne_eq, true_iff, Bool.false_eq_true, false_iff] at *; omega)
theorem refbudget_any (l d c : Int) (w : World) (hl : i64b l) (hd : i64b d) (hc : i64b c) :
    Calls Try.prog 44 #[.agg #[.int .i64 l, .int .i64 d, .int .i64 c]] w fun e w' => e = .returned (.int .i64 (Geo.mk l d c).budget) ∧ Below w.heap.size w w' := by
  by_cases hok : (Geo.mk l d c).ok = true
  · have hb : Hid ((Geo.mk l d c).budget = l - 4) := by show _ = _; unfold Geo.budget; rw [if_pos hok]
    have he : (Geo.mk l d c).ok = true := hok
    have hr := (Geo.ok_iff _).1 hok
    have h5 : 5 ≤ l ∧ l ≤ 6 := by have := hr.1; dsimp only at this; omega
    obtain ⟨h5, h6⟩ := h5
    have HE := Lib.hid he
    clear he hr hok
    go_enter Try.func44, Try.ntmps44
    go_wp2_with (go_at_call 43; refine Calls.mono (refgcheck_any l d c _ hl hd hc) ?_; rw [HE.out]; rintro e w1 ⟨rfl, b1⟩; have c0 := box_up b1 0 rfl)
    go_ret
    exact ⟨ret_i64 hb.out.symm, belT (belA1 (belR _)) b1⟩
  · have hok := Bool.eq_false_iff.2 hok
    have hb : Hid ((Geo.mk l d c).budget = 0) := by show _ = _; unfold Geo.budget; rw [if_neg (by rw [hok]; decide)]
    have he : (Geo.mk l d c).ok = false := hok
    have HE := Lib.hid he
    clear he hok
    go_enter Try.func44, Try.ntmps44
    go_wp2_with (go_at_call 43; refine Calls.mono (refgcheck_any l d c _ hl hd hc) ?_; rw [HE.out]; rintro e w1 ⟨rfl, b1⟩)
    go_ret
    exact ⟨ret_i64 hb.out.symm, belT (belA1 (belR _)) b1⟩
theorem refwidth_any (l d c : Int) (w : World) (hl : i64b l) (hd : i64b d) (hc : i64b c) :
    Calls Try.prog 23 #[.agg #[.int .i64 l, .int .i64 d, .int .i64 c]] w fun e w' => e = .returned (.int .i64 (Geo.mk l d c).width) ∧ Below w.heap.size w w' := by
  by_cases hok : (Geo.mk l d c).ok = true
  · have hb : Hid ((Geo.mk l d c).budget = l - 4) := by show _ = _; unfold Geo.budget; rw [if_pos hok]
    have hb2 : Hid ((Geo.mk l d c).width = d - (l - 4)) := by show _ = _; unfold Geo.width; rw [if_pos hok]
    have he : (Geo.mk l d c).ok = true := hok
    have hr := (Geo.ok_iff _).1 hok
    have h5 : 5 ≤ l ∧ l ≤ 6 ∧ 3 ≤ d ∧ d ≤ 8 := by have := hr.1; have := hr.2.1; dsimp only at *; omega
    obtain ⟨h5, h6, h7, h8⟩ := h5
    have hw : IntKind.i64.wrap (d - (l - 4)) = d - (l - 4) := by rw [IntKind.wrap_i64]; omega
    have HW := Lib.hid hw
    have HE := Lib.hid he
    clear he hr hok hw
    go_enter Try.func23, Try.ntmps23
    go_wp2_with (go_at_call 43; refine Calls.mono (refgcheck_any l d c _ hl hd hc) ?_; rw [HE.out]; rintro e w1 ⟨rfl, b1⟩)
    have c0 := box_up b1 0 rfl
    have c1 := box_up b1 1 rfl
    have c2 := box_up b1 2 rfl
    have HK : Hid (∀ W, Below w1.heap.size w1 W → W.cell? ⟨w.heap.size, 0, none⟩ = some (.int .i64 l) ∧ W.cell? ⟨w.heap.size, 1, none⟩ = some (.int .i64 d) ∧ W.cell? ⟨w.heap.size, 2, none⟩ = some (.int .i64 c)) := by
      intro W hW
      exact ⟨by rw [hW.cell (World.block_lt_of_cell? _ _ c0)]; exact c0, by rw [hW.cell (World.block_lt_of_cell? _ _ c1)]; exact c1, by rw [hW.cell (World.block_lt_of_cell? _ _ c2)]; exact c2⟩
    go_region_held3 (fun w' => w'.cell? ⟨w.heap.size, 0, none⟩ = some (.int .i64 l) ∧ w'.cell? ⟨w.heap.size, 1, none⟩ = some (.int .i64 d) ∧ w'.cell? ⟨w.heap.size, 2, none⟩ = some (.int .i64 c))
      ((refine HK.out _ ?_; iterate 8 try (first | assumption | apply belDr | apply belAlloc | exact belR _)))
      ((go_at_call 44; refine Calls.mono (refbudget_any l d c _ hl hd hc) ?_; rw [hb.out]; rintro e w2 ⟨rfl, b2⟩; have B2 : Below w1.heap.size w1 w2 := belT (by iterate 8 try (first | assumption | apply belDr | apply belAlloc | exact belR _)) b2))
    go_wp2
    go_ret
    exact ⟨ret_i64 (by rw [hb2.out, HW.out]), belT (belT (belA1 (belR _)) b1) (by assumption)⟩
  · have hok := Bool.eq_false_iff.2 hok
    have hb : Hid ((Geo.mk l d c).width = 0) := by show _ = _; unfold Geo.width; rw [if_neg (by rw [hok]; decide)]
    have he : (Geo.mk l d c).ok = false := hok
    have HE := Lib.hid he
    clear he hok
    go_enter Try.func23, Try.ntmps23
    go_wp2_with (go_at_call 43; refine Calls.mono (refgcheck_any l d c _ hl hd hc) ?_; rw [HE.out]; rintro e w1 ⟨rfl, b1⟩)
    go_ret
    exact ⟨ret_i64 hb.out.symm, belT (belA1 (belR _)) b1⟩
end Go.Proofs.Ytknodcaknopcnaa
