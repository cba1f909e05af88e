/- The walk of disk.Read (under way). -/
import Derived.Test.YtggljcdkiaggeaaDisk
import Derived.Laws.Cover3
namespace Go.Proofs.Ytggljcdkiaggeaa
open Go.RowKit
set_option linter.unusedVariables false
set_option linter.unusedSimpArgs false
set_option maxRecDepth 100000
set_option maxHeartbeats 1000000

theorem clone_bytes (v : Value) (l : List Nat) (w : World) (h : Byt w v l) (hl : l.length = 32) :
    Calls Try.prog 55 #[v] w fun e w' => ∃ v', e = .returned v' ∧ Own w' w.heap.size v' l ∧ Below w.heap.size w w' := by
  obtain ⟨j0, hj, hy0, hy1, hy2⟩ := info_parts uint8_info
  obtain ⟨ao, cap, rfl, hc1, hc2⟩ := h.shape
  obtain ⟨b, off, x, rfl, _, _, _⟩ := h.get (k := 0) (by omega)
  have HL := Lib.hid hl
  have hu := Try.underlying29
  have hq : ∀ (n : Nat) (w : World), (binOp .eql 29 (.slice (some ⟨b, off, none⟩) n cap) (.slice none 0 0)).run Try.prog w = .ok (.bool false) w := fun n w => by simp only [binOp]; simp [run_equal_slice_nil w _ _ _ _ _ hu, Result.andThen]
  go_enter Try.func55, Try.ntmps55
  have HO : Hid (Own (w.alloc (.cells #[] 5)) w.heap.size (.slice (some ⟨w.heap.size, 0, none⟩) 0 0) []) :=
    Lib.hid ⟨(fun x hx => by cases hx), rfl, .inr ⟨w.heap.size, 0, #[], rfl, Nat.le_refl _, heap_alloc_new w _, Nat.le_refl _, by decide, rfl, rfl⟩⟩
  have HB := Lib.hid h
  clear h hl
  go_wp2_with (at_builtin; go_loud (refine wpList_append_bytes rfl _ _ 29 rfl j0 hu hj hy0 hy1 hy2 w.heap.size _ [] rfl HO.out _ _ rfl HB.out.alloc (by have := HL.out; simp; omega) (by simp) ?_); intro v' w1 hown hgrow)
  go_ret
  exact ⟨_, rfl, by simpa using hown, (belA1 (belR w)).grown hgrow (by simp) (fun g hg => by cases hg; exact Nat.le_refl _)⟩
theorem read_no (w : World) (base g : Nat) (pv : Value) (d : D.Dk) (at' : Int) (h : IsDisk w base g pv d) (hm : D.may d at' ≠ 0) :
    Calls Try.prog 19 #[.pointer (some ⟨g, 0, none⟩), .int .i64 at'] w fun e w' => e = .returned (.tuple #[.slice none 0 0, .int .i64 (D.may d at')]) ∧ w = w' := by
  obtain ⟨m, hmm⟩ : ∃ m, m = D.may d at' := ⟨_, rfl⟩
  have hc := may_any w base g pv d at' h
  rw [← hmm] at hc hm ⊢
  have hb : (m != 0) = true := by rw [bne_iff_ne]; exact hm
  have HC := Lib.hid hc
  clear hmm hc hm
  go_enter Try.func19, Try.ntmps19
  go_wp2_with fail
  refine Calls.mono HC.out ?_
  rintro e w1 ⟨rfl, rfl⟩
  go_wp2
  go_ret2
  exact ⟨rfl, rfl⟩
end Go.Proofs.Ytggljcdkiaggeaa
