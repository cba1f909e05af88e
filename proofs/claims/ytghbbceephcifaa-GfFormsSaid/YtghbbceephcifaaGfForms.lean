/- The walk of GfForms (chapter 2): products, powers, logs of a few bytes by hand. True at every input. -/
import Derived.Test.YtghbbceephcifaaGfLaws
import Derived.Test.YtghbbceephcifaaLib
namespace Go.Proofs.Ytghbbceephcifaa
open Go.RowKit G
set_option linter.unusedVariables false
set_option linter.unusedSimpArgs false
set_option maxRecDepth 100000
set_option maxHeartbeats 4000000

theorem gfForms_walk (n : Int) (w : World) (hn : -9223372036854775808 ≤ n ∧ n ≤ 9223372036854775807) :
    Calls Try.prog 8 #[.int .i64 n] w fun e w' => e = .returned (.bool true) ∧ Below w.heap.size w w' := by
  have b1 : -1000 < n.tmod 1000 := by rw [tmod_cases]; split <;> omega
  have b2 : n.tmod 1000 < 1000 := by rw [tmod_cases]; split <;> omega
  have g1 : gm 2 2 = 4 := by decide +kernel
  have g2 : gm 128 2 = 29 := by decide +kernel
  have g3 : gm 29 2 = 58 := by decide +kernel
  have g4 : gm 3 3 = 5 := by decide +kernel
  have g5 : gm 255 255 = 226 := by decide +kernel
  have g6 : gm 7 1 = 7 := by decide +kernel
  have g7 : gm 0 99 = 0 := by decide +kernel
  have d1 : gm 4 (inv 2) = 2 := by decide +kernel
  have d2 : gm 29 (inv 2) = 128 := by decide +kernel
  have d3 : gm 58 (inv 2) = 29 := by decide +kernel
  have d4 : gm 5 (inv 3) = 3 := by decide +kernel
  have d5 : gm 226 (inv 255) = 255 := by decide +kernel
  have d6 : gm 7 (inv 1) = 7 := by decide +kernel
  have d7 : gm 0 (inv 99) = 0 := by decide +kernel
  go_enter Try.func8, Try.ntmps8
  go_wp2_with fail
  refine wp_loop_rounds 8 ?_
  iterate 7
    rw [rounds_succ]
    go_wp2_with fail
    go_quiet (first | (go_at_call 19; exact quietS (mul_i _ _ _ (by decide) (by decide) (by decide) (by decide))) | (go_at_call 29; exact quietS (div_i _ _ _ (by decide) (by decide) (by decide) (by decide))))
    go_wp2_with fail
  clear g1 g2 g3 g4 g5 g6 g7 d1 d2 d3 d4 d5 d6 d7
  have p1 : pwI 8 = 29 := by decide +kernel
  have p2 : pwI (-1) = 142 := by decide +kernel
  have p3 : inv 2 = 142 := by decide +kernel
  have p4 : lgI 29 = 8 := by decide +kernel
  have p5 : lgI 1 = 0 := by decide +kernel
  have p6 : lgI 2 = 1 := by decide +kernel
  have p7 : inv 0 = 0 := rfl
  have p8 : inv 1 = 1 := by decide +kernel
  have p9 := pwI_255 (n.tmod 1000)
  have p10 : (((pwI (n.tmod 1000) : Nat) : Int) != 0) = true := by rw [bne_iff_ne]; have := pwI_ne (n.tmod 1000); omega
  rw [rounds_succ]
  go_wp2_with (first
      | (go_at_call 31; refine (inv_i _ _ (by omega) (by omega)).mono ?_; rintro e w' ⟨rfl, rfl⟩)
      | (go_at_call 32; refine (log_i _ _ (by omega) (by omega)).mono ?_; rintro e w' ⟨rfl, rfl⟩)
      | (go_at_call 30; refine (powI _ _).mono ?_; rintro e w' ⟨rfl, rfl⟩)
      | (go_at_call 20; refine (wakes2_any _).mono ?_; rintro e w' ⟨rfl, rfl⟩))
  go_ret
  refine ⟨rfl, ?_⟩
  repeat (first | exact Below.refl _ _ | refine belDN ?_ _ | refine belAlloc ?_ _)

theorem gfForms_law (n : Int) (hn : -9223372036854775808 ≤ n ∧ n ≤ 9223372036854775807) (W : World) :
    Calls Try.prog 8 #[.int .i64 n] W fun e W' => e = .returned (.bool true) ∧ Below W.heap.size W W' := gfForms_walk n W hn
end Go.Proofs.Ytghbbceephcifaa
