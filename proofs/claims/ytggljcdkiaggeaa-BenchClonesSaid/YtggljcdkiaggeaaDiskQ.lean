/- The walks of disk.Pending and disk.Failed, which change nothing. -/
import Derived.Test.YtggljcdkiaggeaaDisk
namespace Go.Proofs.Ytggljcdkiaggeaa
open Go.RowKit
set_option linter.unusedVariables false
set_option linter.unusedSimpArgs false
set_option maxRecDepth 100000
set_option maxHeartbeats 1000000

theorem IsDisk.pshape {w : World} {base g : Nat} {pv : Value} {d : D.Dk} (h : IsDisk w base g pv d) : ∃ ao cap, pv = .slice ao d.p.length cap ∧ d.p.length ≤ cap ∧ cap ≤ 9223372036854775807 := by
  rcases h.pend.2 with ⟨e, hn⟩ | ⟨b, cap, cur, e, _, _, h1, h2, _⟩
  · exact ⟨none, 0, by rw [e, hn], by omega, by decide⟩
  · exact ⟨_, cap, e, h1, h2⟩
theorem pending_any (w : World) (base g : Nat) (pv : Value) (d : D.Dk) (h : IsDisk w base g pv d) :
    Calls Try.prog 24 #[.pointer (some ⟨g, 0, none⟩)] w fun e w' => e = .returned (.int .i64 (d.p.length : Nat)) ∧ w = w' := by
  have hp := h.pv_cell
  obtain ⟨ao, cap, rfl, _, _⟩ := h.pshape
  go_enter Try.func24, Try.ntmps24
  go_wp2
  go_ret
  exact ⟨rfl, rfl⟩
theorem failed_any (w : World) (base g : Nat) (pv : Value) (d : D.Dk) (h : IsDisk w base g pv d) :
    Calls Try.prog 28 #[.pointer (some ⟨g, 0, none⟩)] w fun e w' => e = .returned (.bool d.f) ∧ w = w' := by
  have hf := h.f_cell
  go_enter Try.func28, Try.ntmps28
  go_wp2
  go_ret
  exact ⟨rfl, rfl⟩
end Go.Proofs.Ytggljcdkiaggeaa
