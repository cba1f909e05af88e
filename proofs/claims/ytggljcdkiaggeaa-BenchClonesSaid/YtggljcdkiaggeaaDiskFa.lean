/- The walk of disk's Fail. -/
import Derived.Test.YtggljcdkiaggeaaDiskB
namespace Go.Proofs.Ytggljcdkiaggeaa
open Go.RowKit
set_option linter.unusedVariables false
set_option linter.unusedSimpArgs false
set_option maxRecDepth 100000
set_option maxHeartbeats 1000000

theorem built_fail : Try.prog.built 80 [(2, .bool true)] = some (dcells D.fail (.slice none 0 0)).toArray := by kernel_rfl
theorem disk_size : (Try.prog.info? 80).map (·.size) = some 1666 := by kernel_rfl
theorem fail_any (w : World) (base g : Nat) (pv : Value) (d : D.Dk) (h : IsDisk w base g pv d) :
    Calls Try.prog 27 #[.pointer (some ⟨g, 0, none⟩)] w fun e w' => e = .returned (.tuple #[]) ∧ IsDisk w' base g (.slice none 0 0) D.fail ∧ Fr (fun b => b = g) w w' := by
  have hbd := built_fail
  obtain ⟨C, hC⟩ : ∃ C, C = dcells D.fail (.slice none 0 0) := ⟨_, rfl⟩
  have hl : C.length = 1666 := by rw [hC]; decide +kernel
  have h1 : ∀ u ∈ C, u.oneCell' = true := by
    rw [hC]
    unfold dcells
    intro u hu
    rcases List.mem_append.1 hu with h1 | h1
    · exact u8v_one _ u h1
    · cases h1 with
      | head => rfl
      | tail _ h1 => rw [List.mem_singleton.1 h1]; rfl
  rw [← hC] at hbd
  have HS : Hid (C.toArray.size = 1666) := by show C.toArray.size = 1666; rw [List.size_toArray]; exact hl
  have H1 := Lib.hid h1
  have HT := Lib.hid h.there
  have hD : Hid (IsDisk (w.setCells g 0 C) base g (.slice none 0 0) D.fail) := by
    refine ⟨h.ge, Nat.lt_of_lt_of_le h.lt (Fr.cells w g 0 C).size, ?_, World.there_setCells h.there _ _ _, World.ownsRow_nil _ _ _ _, D.fail_ok, by intro e; cases e⟩
    rw [← hC]
    exact World.rangeAt_setCells_same _ _ _ _ (by rw [hl]; exact h.there)
  have HSz := Lib.hid disk_size
  have HB := Lib.hid hbd
  clear h hC hl h1 hbd
  go_enter Try.func27, Try.ntmps27
  go_wp2_with (first
    | (refine wpList_build_as rfl 80 _ rfl C.toArray HB.out ?_)
    | (refine wpList_store_mid rfl 80 _ _ rfl g 0 C.toArray rfl rfl (by rw [HS.out]; exact HT.out) (by rw [HS.out]; exact HSz.out) (all_oneCell_toArray H1.out) ?_)
    | fail)
  go_end0
  exact ⟨rfl, hD.out, Fr.cells _ _ _ _⟩
end Go.Proofs.Ytggljcdkiaggeaa
