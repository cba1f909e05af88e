/- The walk of SuperTells (chapter 9). True at every input. -/
import Derived.Test.YtgnnkglmlopldaaSupOk
import Derived.Test.YtgnnkglmlopldaaOf9
namespace Go.Proofs.Ytgnnkglmlopldaa
open Go.RowKit C
set_option linter.unusedVariables false
set_option linter.unusedSimpArgs false
set_option maxRecDepth 100000
set_option maxHeartbeats 8000000

theorem superTells_law (gen : Int) (h0 : -9223372036854775808 ≤ gen ∧ gen ≤ 9223372036854775807) (a : Int) (h1 : -9223372036854775808 ≤ a ∧ a ≤ 9223372036854775807) (b : Int) (h2 : -9223372036854775808 ≤ b ∧ b ≤ 9223372036854775807) (window : Int) (h3 : -9223372036854775808 ≤ window ∧ window ≤ 9223372036854775807) (epoch : Int) (h4 : -9223372036854775808 ≤ epoch ∧ epoch ≤ 9223372036854775807) (out : Int) (h5 : -9223372036854775808 ≤ out ∧ out ≤ 9223372036854775807) (how : Int) (h6 : -9223372036854775808 ≤ how ∧ how ≤ 9223372036854775807) (W : World) :
    Calls Try.prog 6 #[.int .i64 gen, .int .i64 a, .int .i64 b, .int .i64 window, .int .i64 epoch, .int .i64 out, .int .i64 how] W fun e W' => e = .returned (.bool true) ∧ Below W.heap.size W W' := by
  have hof := fun w => of9_any gen a b window epoch out how w h0 h1 h2 h3 h4 h5 h6
  have HOF := Lib.hid hof
  clear hof h0 h1 h2 h3 h4 h5 h6
  go_enter Try.func6, Try.ntmps6
  go_wp2_with fail
  refine Calls.mono (HOF.out _) ?_
  rintro e w1 ⟨s, rfl, hin, b1⟩
  unfold sv
  have hck := fun w => scheck_any s w hin
  cases hok : s.ok with
  | true =>
    have he := fun w => sencode_ok s w hok
    have hr := fun w => refsencode_ok s w hok
    rw [Sup.err_yes hok] at hck
    unfold sv at *
    have HE := Lib.hid he
    have HR := Lib.hid hr
    have HC := Lib.hid hck
    clear he hr hck hok
    go_wp2_with fail
    refine Calls.mono (HE.out _) ?_
    rintro e w2 ⟨v2, rfl, O2, b2⟩
    obtain ⟨c0, c1, c2, c3, c4, c5, c6, c7, c8, c9, c10⟩ := box11 b2
    go_wp2_with fail
    refine Calls.mono (HR.out _) ?_
    rintro e w3 ⟨v3, rfl, O3, b3⟩
    have c3 := belT b2 b3
    obtain ⟨c0, c1, c2, c3x, c4, c5, c6, c7, c8, c9, c10⟩ := box11 c3
    go_wp2_with fail
    refine Calls.mono (HC.out _) ?_
    rintro e w4 ⟨rfl, b4⟩
    go_wp2_with fail
    refine Calls.mono (same_any _ _ _ _ _ (O2.byt.up (belT b3 b4)) (O3.byt.up b4)) ?_
    rw [decide_eq_true rfl]
    rintro e w5 ⟨rfl, d5⟩
    go_wp2_with fail
    refine Calls.mono (wakes9_any _) ?_
    rintro e w6 ⟨rfl, b6⟩
    go_wp2_with fail
    go_ret
    exact ⟨rfl, belT b1 (belT (belA1 (belR _)) (belT c3 (belT b4 (belT (d5.below _) b6))))⟩
  | false =>
    have he := fun w => sencode_no s w hin hok
    have hr := fun w => refsencode_no s w hin hok
    rw [Sup.err_no hok] at hck
    unfold sv at *
    have HE := Lib.hid he
    have HR := Lib.hid hr
    have HC := Lib.hid hck
    clear he hr hck hok
    go_wp2_with fail
    refine Calls.mono (HE.out _) ?_
    rintro e w2 ⟨rfl, b2⟩
    obtain ⟨c0, c1, c2, c3, c4, c5, c6, c7, c8, c9, c10⟩ := box11 b2
    go_wp2_with fail
    refine Calls.mono (HR.out _) ?_
    rintro e w3 ⟨rfl, b3⟩
    have c3 := belT b2 b3
    obtain ⟨c0, c1, c2, c3x, c4, c5, c6, c7, c8, c9, c10⟩ := box11 c3
    go_wp2_with fail
    refine Calls.mono (HC.out _) ?_
    rintro e w4 ⟨rfl, b4⟩
    go_wp2_with fail
    refine Calls.mono (same_any _ _ _ _ _ (Byt.nil _) (Byt.nil _)) ?_
    rw [decide_eq_true rfl]
    rintro e w5 ⟨rfl, d5⟩
    go_wp2_with fail
    refine Calls.mono (wakes9_any _) ?_
    rintro e w6 ⟨rfl, b6⟩
    go_wp2_with fail
    go_ret
    exact ⟨rfl, belT b1 (belT (belA1 (belR _)) (belT c3 (belT b4 (belT (d5.below _) b6))))⟩
end Go.Proofs.Ytgnnkglmlopldaa
