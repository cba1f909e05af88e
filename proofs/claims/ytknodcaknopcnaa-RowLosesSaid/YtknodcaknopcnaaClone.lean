/- The walk of slices.Clone (bytes). -/
import Derived.Test.YtknodcaknopcnaaOwnD
import Derived.Test.YtknodcaknopcnaaBEq
namespace Go.Proofs.Ytknodcaknopcnaa
open Go.RowKit
set_option linter.unusedVariables false
set_option linter.unusedSimpArgs false
set_option maxRecDepth 100000
set_option maxHeartbeats 1000000

theorem clone_any (v : Value) (l : List Nat) (w : World) (h : Byt w v l) (hl : l.length ≤ 1048000) :
    Calls Try.prog 48 #[v] w fun e w' => ∃ v', e = .returned v' ∧ Own w' w.heap.size v' l ∧ Below w.heap.size w w' := by
  obtain ⟨j0, hj, hy0, hy1, hy2⟩ := info_parts uint8_info
  have HB := Lib.hid h
  obtain ⟨ao, cap, rfl, h1, h2, h0, h3, hA⟩ := h
  have q1 : ∀ W, (binOp .eql 22 (.slice none 0 0) (.slice none 0 0)).run Try.prog W = .ok (.bool true) W := fun _ => rfl
  have q2 : ∀ (W : World) (a : Addr) n c, (binOp .eql 22 (.slice (some a) n c) (.slice none 0 0)).run Try.prog W = .ok (.bool false) W := fun _ _ _ _ => rfl
  cases ao with
  | none =>
    have e : l = [] := by
      have := h0 rfl
      exact List.eq_nil_of_length_eq_zero (by omega)
    subst e
    have := h0 rfl
    subst this
    go_enter Try.func48, Try.ntmps48
    go_wp2
    go_ret
    exact ⟨_, rfl, Own.empty _ _, belR _⟩
  | some ad =>
    clear h3 hA h0
    go_enter Try.func48, Try.ntmps48
    go_wp2_with (at_builtin; go_loud (refine wpList_append_bytes rfl (.tmp 5) (.tmp 6) 22 rfl j0 Try.underlying22 hj hy0 hy1 hy2 w.heap.size _ [] rfl (Own.lit w #[] [] rfl rfl rfl (fun _ h => by cases h) (by simp) (Nat.le_refl _)) _ l rfl (HB.out.up (belA1 (belR _))) (by simp; omega) (by simp) ?_); intro v1 w1 O1 g1)
    go_ret
    exact ⟨_, rfl, O1, belG (belA1 (belR _)) g1 (fun g hg => by cases hg; exact Nat.le_refl _)⟩
end Go.Proofs.Ytknodcaknopcnaa
