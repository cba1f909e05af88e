/- The walk of disk.New. -/
import Derived.Test.YtggljcdkiaggeaaDisk
namespace Go.Proofs.Ytggljcdkiaggeaa
open Go.RowKit
set_option linter.unusedVariables false
set_option linter.unusedSimpArgs false
set_option maxRecDepth 100000
set_option maxHeartbeats 1000000

theorem disk_info : (Try.prog.info? 80).map (fun i => (i.zero, i.size)) = some (some (.agg (dcells D.blank (.slice none 0 0)).toArray), 1666) := by kernel_rfl
theorem new_any (w : World) : Calls Try.prog 14 #[] w fun e w' => e = .returned (.pointer (some ⟨w.heap.size, 0, none⟩)) ∧ w' = w.alloc (.cells (dcells D.blank (.slice none 0 0)).toArray 80) := by
  obtain ⟨hz, hs⟩ := zero_of_info disk_info
  obtain ⟨Z, hZ⟩ : ∃ Z, Z = (dcells D.blank (.slice none 0 0)).toArray := ⟨_, rfl⟩
  rw [← hZ] at hz ⊢
  have hsz : Z.size = 1666 := by rw [hZ]; decide +kernel
  clear hZ
  go_enter Try.func14, Try.ntmps14
  go_wp2
  go_ret
  exact ⟨rfl, rfl⟩
theorem range_whole {w : World} {g : Nat} {cs : List Value} {t : TypeId} {fr : Nat × Nat} (h : w.heap[g]? = some (.cells cs.toArray t fr)) : w.rangeAt g 0 cs := fun j v hv => by
  rw [Nat.zero_add, cell_of_row w g j _ t fr h]
  simpa using hv
theorem new_disk {w : World} {base : Nat} (hb : base ≤ w.heap.size) : IsDisk (w.alloc (.cells (dcells D.blank (.slice none 0 0)).toArray 80)) base w.heap.size (.slice none 0 0) D.blank := by
  have hh := heap_alloc_new w (.cells (dcells D.blank (.slice none 0 0)).toArray 80)
  refine ⟨hb, by simp, range_whole hh, ?_, World.ownsRow_nil _ _ _ _, D.blank_ok, by intro e; cases e⟩
  intro j hj
  have hl : (dcells D.blank (.slice none 0 0)).toArray.size = 1666 := by decide +kernel
  refine ⟨?_, ?_⟩
  · rw [Nat.zero_add, cell_of_row _ _ j _ _ _ hh, Array.getElem?_eq_getElem (by omega)]
    rfl
  · unfold World.frozen?
    show (match (w.alloc _).heap[w.heap.size]? with | some (.cells _ _ (lo, hi)) => _ | _ => _) = _
    rw [hh]
    simp
end Go.Proofs.Ytggljcdkiaggeaa
