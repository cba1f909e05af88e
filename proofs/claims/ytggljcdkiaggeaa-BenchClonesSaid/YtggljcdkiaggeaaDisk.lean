/- The walks of package disk. -/
import Derived.Test.YtggljcdkiaggeaaDiskP
import Derived.Test.YtggljcdkiaggeaaKeep
import Derived.Test.YtggljcdkiaggeaaMore
import Derived.Deep.WholeRow
namespace Go.Proofs.Ytggljcdkiaggeaa
open Go.RowKit
set_option linter.unusedVariables false
set_option linter.unusedSimpArgs false
set_option maxRecDepth 100000
set_option maxHeartbeats 1000000

/-- a disk in memory: its object g, its pending slice pv -/
structure IsDisk (w : World) (base g : Nat) (pv : Value) (d : D.Dk) : Prop where
  ge : base ≤ g
  lt : g < w.heap.size
  cells : w.rangeAt g 0 (dcells d pv)
  there : w.there g 0 1666
  pend : w.ownsRow base 82 33 pv d.p.length (pcells d.p)
  ok : D.Ok d
  ap : pv.ownBlock ≠ some g
theorem flat_len {l : List (List Nat)} {n : Nat} (h : ∀ s ∈ l, s.length = n) : l.flatten.length = n * l.length := by
  induction l with
  | nil => simp
  | cons a l ih =>
    rw [List.flatten_cons, List.length_append, ih (fun s hs => h s (.tail _ hs)), h a (.head _), List.length_cons, Nat.mul_add]
    omega
theorem IsDisk.flat {w : World} {base g : Nat} {pv : Value} {d : D.Dk} (h : IsDisk w base g pv d) : (d.l.flatten.map u8v).length = 1664 := by
  rw [List.length_map, flat_len h.ok.sec, h.ok.len]
theorem IsDisk.pv_cell {w : World} {base g : Nat} {pv : Value} {d : D.Dk} (h : IsDisk w base g pv d) : w.cell? ⟨g, 1664, none⟩ = some pv := by
  have := h.cells 1664 pv (by unfold dcells; rw [List.getElem?_append_right (by rw [h.flat]; exact Nat.le_refl _), h.flat]; rfl)
  simpa using this
theorem IsDisk.f_cell {w : World} {base g : Nat} {pv : Value} {d : D.Dk} (h : IsDisk w base g pv d) : w.cell? ⟨g, 1665, none⟩ = some (.bool d.f) := by
  have := h.cells 1665 (.bool d.f) (by unfold dcells; rw [List.getElem?_append_right (by rw [h.flat]; decide), h.flat]; rfl)
  simpa using this
theorem may_any (w : World) (base g : Nat) (pv : Value) (d : D.Dk) (at' : Int) (h : IsDisk w base g pv d) :
    Calls Try.prog 54 #[.pointer (some ⟨g, 0, none⟩), .int .i64 at'] w fun e w' => e = .returned (.int .i64 (D.may d at')) ∧ w = w' := by
  have hf := h.f_cell
  by_cases hd : d.f = true
  · have HE : Hid (D.may d at' = 5) := by show _ = _; unfold D.may; rw [if_pos hd]
    rw [hd] at hf
    clear hd
    go_enter Try.func54, Try.ntmps54
    go_wp2
    go_ret
    exact ⟨by rw [HE.out]; rfl, rfl⟩
  · have hd : d.f = false := by simpa using hd
    rw [hd] at hf
    by_cases ha : at' < 0 ∨ 52 ≤ at'
    · have HE : Hid (D.may d at' = 4) := by show _ = _; unfold D.may; rw [hd, if_pos ha]; rfl
      clear hd
      rcases ha with ha | ha
      · go_enter Try.func54, Try.ntmps54
        go_wp2
        go_ret
        exact ⟨by rw [HE.out]; rfl, rfl⟩
      · go_enter Try.func54, Try.ntmps54
        go_wp2
        go_ret
        exact ⟨by rw [HE.out]; rfl, rfl⟩
    · have HE : Hid (D.may d at' = 0) := by show _ = _; unfold D.may; rw [hd, if_neg ha]; rfl
      have h1 : 0 ≤ at' := by omega
      have h2 : at' < 52 := by omega
      clear hd ha
      go_enter Try.func54, Try.ntmps54
      go_wp2
      go_ret
      exact ⟨by rw [HE.out]; rfl, rfl⟩
end Go.Proofs.Ytggljcdkiaggeaa
