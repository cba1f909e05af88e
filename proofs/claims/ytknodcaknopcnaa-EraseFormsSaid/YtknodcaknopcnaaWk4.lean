/- The walk of the wakes of chapter 4. -/
import Derived.Test.YtknodcaknopcnaaEraS
import Derived.Test.YtknodcaknopcnaaKeep
namespace Go.Proofs.Ytknodcaknopcnaa
open Go.RowKit
set_option linter.unusedVariables false
set_option linter.unusedSimpArgs false
set_option maxRecDepth 100000
set_option maxHeartbeats 1000000

attribute [local irreducible] Go.Calls Byt Own Parts RowB OwnN
theorem wakes4_any (w : World) : Calls Try.prog 15 #[] w fun e w' => e = .returned (.bool true) ∧ Below w.heap.size w w' := by
  have hyes : Y.solveB ((1 : Nat) : Int) [3] [] [[1], []] = true := by decide +kernel
  have hval : Y.solveL 1 [3] [] [[1], []] = [[1], [2]] := by decide +kernel
  have HYES := Lib.hid hyes
  have HVAL := Lib.hid hval
  clear hyes hval
  go_enter Try.func15, Try.ntmps15
  go_wp2_with fail
  refine Calls.mono (solve_any 1 _ _ _ [3] [] [[1], []] _ ?_ (Byt.nil _) ?_ (by decide) (by decide)) ?_
  · exact (Byt.lit w #[.int .u8 3] _ [3] rfl rfl rfl (by decide) (by decide)).up (belA2 (belR _))
  · exact Parts.lit2 (by simp) (Byt.lit _ #[.int .u8 1] _ [1] (by simp) rfl rfl (by decide) (by decide)) (Byt.nil _)
  rintro e w1 ⟨h, b1⟩
  rcases h with ⟨_, v', rfl, RB⟩ | ⟨h, _⟩
  · rw [HVAL.out] at RB
    obtain ⟨g, cap, rfl, hg1, hg2, hcap1, hcap2⟩ := RB.shape (by decide)
    obtain ⟨c1, p1, hc1, hf1, hp1, hy1, _⟩ := RB.get (k := 1) (by decide)
    have e1 : p1 = [2] := (Option.some.inj hp1.out).symm
    subst e1
    obtain ⟨a1, k1, rfl, _, _⟩ := hy1.shape
    have B1 : Below w.heap.size w w1 := belT (belA3 (belR _)) b1
    have HY1 := Lib.hid hy1
    clear RB hf1 hp1 hy1 b1
    dsimp only [List.length_cons, List.length_nil] at *
    go_wp2_with fail
    refine Calls.mono (same_any _ _ [2] [2] _ (HY1.out.up (belA1 (belR _))) (Byt.lit _ #[.int .u8 2] _ [2] rfl rfl rfl (by decide) (by decide))) ?_
    rw [decide_eq_true rfl]
    rintro e w2 ⟨rfl, d2⟩
    go_wp2
    go_ret
    exact ⟨rfl, belT B1 (belT (belA1 (belR _)) (d2.below _))⟩
  · rw [HYES.out] at h; cases h
end Go.Proofs.Ytknodcaknopcnaa
