/- The walks of package gf and of the reference's field: each function answers what the plain field says. -/
import Derived.Test.YtknodcaknopcnaaProg
import Derived.Test.YtknodcaknopcnaaGf
import Derived.Test.YtknodcaknopcnaaNum
import Derived.WalkKit
import Derived.KernelRfl
import Derived.Lib.Hide
namespace Go.Proofs.Ytknodcaknopcnaa
open Go.RowKit G
set_option linter.unusedVariables false
set_option linter.unusedSimpArgs false
set_option maxRecDepth 100000
set_option maxHeartbeats 1000000

theorem double_any (a : Nat) (w : World) (ha : a < 256) :
    Calls Try.prog 68 #[.int .u8 a] w fun e w' => e = .returned (.int .u8 (dbl a : Nat)) ∧ w = w' := by
  by_cases h : 128 ≤ a
  · have hb : decide ((a : Int) ≥ 128) = true := decide_eq_true (by omega)
    have hx : bits .xor .u8 ((a : Int) * 2 % 256) 29 = ((dbl a : Nat) : Int) := by
      have := bx8 (a := a * 2 % 256) (b := 29) (by omega) (by omega)
      unfold dbl; rw [if_pos h, ← this]; congr 1
    go_enter Try.func68, Try.ntmps68
    go_wp2
    go_ret
    exact ⟨rfl, rfl⟩
  · have hd : dbl a = a * 2 % 256 := by unfold dbl; rw [if_neg h]
    have HD := Lib.hid hd; clear hd
    have hb : decide ((a : Int) ≥ 128) = false := decide_eq_false (by omega)
    go_enter Try.func68, Try.ntmps68
    go_wp2
    go_ret
    exact ⟨ret_u8 (by rw [HD.out]; omega), rfl⟩

theorem mulA_zero (k : Nat) : ∀ a o, mulA k a 0 o = o := by
  induction k with
  | zero => intro a o; rfl
  | succ k ih => intro a o; exact ih _ _
theorem mul_any (a b : Nat) (w : World) (ha : a < 256) (hb : b < 256) :
    Calls Try.prog 69 #[.int .u8 a, .int .u8 b] w fun e w' => e = .returned (.int .u8 (gm a b : Nat)) ∧ w = w' := by
  go_enter Try.func69, Try.ntmps69
  go_wp2
  go_loop [0, 1, 5] (fun x y o => ∃ k x' y' o' : Nat, x = .int .u8 x' ∧ y = .int .u8 y' ∧ o = .int .u8 o' ∧ x' < 256 ∧ y' < 2 ^ k ∧ k ≤ 8 ∧ o' < 256 ∧ Hid (mulA k x' y' o' = gm a b)) (fun _ y _ => (intOf y).toNat)
  case atStart => exact ⟨8, a, b, 0, rfl, rfl, rfl, ha, hb, by decide, by decide, Lib.hid rfl⟩
  case round =>
    obtain ⟨k, x, y, o, rfl, rfl, rfl, hx, hy, hk, ho, H⟩ := hrel
    by_cases h0 : y = 0
    · have h1 : y ≤ 0 := by omega
      clear h0
      go_wp2
      go_ret
      have := H.out
      rw [show y = 0 from by omega, mulA_zero] at this
      exact ⟨ret_u8 (by rw [← this]), rfl⟩
    · have hpos : 0 < y := by omega
      obtain ⟨k, rfl⟩ : ∃ m, k = m + 1 := ⟨k - 1, by
        cases k with
        | zero => simp at hy; omega
        | succ k => rfl⟩
      have hy8 : y < 256 := Nat.lt_of_lt_of_le hy (Nat.pow_le_pow_right (n := 2) (by decide) hk)
      have hxo := bx8 ho hx
      have hxo2 : o ^^^ x < 256 := G.xor8 ho hx
      have hand := band1 hy8
      have hy2 : y / 2 < 2 ^ k := by rw [Nat.pow_succ] at hy; omega
      have HM : Hid (mulA k (dbl x) (y / 2) (if y % 2 = 1 then o ^^^ x else o) = gm a b) := H
      clear H
      have hdx := dbl_lt x hx
      rcases Nat.mod_two_eq_zero_or_one y with hm | hm
      · rw [hm] at hand HM
        clear hm
        go_wp2_with (go_at_call 68; refine (double_any _ _ (by assumption)).mono ?_; rintro e w' ⟨rfl, rfl⟩)
        go_round
        case rel => exact ⟨k, dbl x, y / 2, o, rfl, by go_num, rfl, hdx, hy2, by omega, ho, HM⟩
        case measure => simp [intOf]; omega
      · rw [hm] at hand HM
        clear hm
        go_wp2_with (go_at_call 68; refine (double_any _ _ (by assumption)).mono ?_; rintro e w' ⟨rfl, rfl⟩)
        go_round
        case rel => exact ⟨k, dbl x, y / 2, o ^^^ x, rfl, by go_num, rfl, hdx, hy2, by omega, hxo2, HM⟩
        case measure => simp [intOf]; omega

/-- what Go's rem and sum make of n -/
theorem tmod255 (n : Int) : -255 < n.tmod 255 ∧ n.tmod 255 < 255 := by rw [tmod_cases]; split <;> omega
theorem pow_arg (n : Int) : ((n.tmod 255 + 255).tmod 255) = n % 255 := by
  have := tmod255 n
  rw [Int.tmod_eq_emod_of_nonneg (by omega), tmod_cases]
  split <;> omega
/-- what Log answers -/
def lgI (a : Nat) : Int := if a = 0 then -1 else (lg a : Nat)
theorem pow_any (n : Int) (w : World) :
    Calls Try.prog 58 #[.int .i64 n] w fun e w' => e = .returned (.int .u8 (pw (n % 255).toNat : Nat)) ∧ w = w' := by
  obtain ⟨m, hm⟩ : ∃ m : Nat, (m : Int) = n % 255 := ⟨(n % 255).toNat, by omega⟩
  have hm2 : m < 255 := by omega
  have ht := tmod255 n
  have HA : (n.tmod 255 + 255).tmod 255 = (m : Int) := by rw [pow_arg, hm]
  have HM := Lib.hid hm
  clear hm
  go_enter Try.func58, Try.ntmps58
  go_wp2
  go_loop [3, 8] (fun x i => ∃ k : Nat, k ≤ m ∧ x = .int .u8 (pw k : Nat) ∧ i = .int .i64 k) (fun _ i => m - (intOf i).toNat)
  case atStart => exact ⟨0, Nat.zero_le _, rfl, rfl⟩
  case round =>
    obtain ⟨k, hk, rfl, rfl⟩ := hrel
    clear HA
    by_cases hlt : k < m
    · have := pw_lt k
      go_wp2_with (go_at_call 68; refine (double_any _ _ (by assumption)).mono ?_; rintro e w' ⟨rfl, rfl⟩)
      go_round
      case rel => exact ⟨k + 1, by omega, rfl, by go_num⟩
      case measure => simp [intOf]; omega
    · go_wp2
      go_ret
      exact ⟨ret_u8 (by rw [← HM.out, Int.toNat_natCast, show k = m by omega]), rfl⟩

theorem log_any (a : Nat) (w : World) (ha : a < 256) :
    Calls Try.prog 67 #[.int .u8 a] w fun e w' => e = .returned (.int .i64 (lgI a)) ∧ w = w' := by
  go_enter Try.func67, Try.ntmps67
  go_wp2
  go_loop [3, 5] (fun x i => ∃ k : Nat, k ≤ 255 ∧ x = .int .u8 (pw k : Nat) ∧ i = .int .i64 k ∧ (∀ j, j < k → pw j ≠ a)) (fun _ i => 255 - (intOf i).toNat)
  case atStart => exact ⟨0, Nat.zero_le _, rfl, rfl, fun j hj => by omega⟩
  case round =>
    obtain ⟨k, hk, rfl, rfl, hall0⟩ := hrel
    have hall := Lib.hid hall0
    clear hall0
    by_cases hlt : k < 255
    · have hp := pw_lt k
      by_cases he : pw k = a
      · have hb : (((pw k : Nat) : Int) == (a : Int)) = true := by rw [he]; simp
        have HE := Lib.hid he
        clear he
        go_wp2
        go_ret
        have ha0 : a ≠ 0 := by rw [← HE.out]; exact pw_ne_zero k
        refine ⟨ret_i64 ?_, rfl⟩
        unfold lgI
        rw [if_neg ha0, ← HE.out, lg_pw hlt]
      · have hb : (((pw k : Nat) : Int) == (a : Int)) = false := by simp; omega
        have HE := Lib.hid he
        clear he
        go_wp2_with (go_at_call 68; refine (double_any _ _ (by assumption)).mono ?_; rintro e w' ⟨rfl, rfl⟩)
        go_round
        case rel =>
          refine ⟨k + 1, by omega, rfl, by go_num, fun j hj => ?_⟩
          by_cases hjk : j = k
          · rw [hjk]; exact HE.out
          · exact hall.out j (by omega)
        case measure => simp [intOf]; omega
    · go_wp2
      go_ret
      refine ⟨ret_i64 ?_, rfl⟩
      have ha0 : a = 0 := Classical.byContradiction fun h0 => hall.out (lg a) (by have := lg_lt ha h0; omega) (pw_lg ha h0)
      unfold lgI
      rw [if_pos ha0]

theorem inv_any (a : Nat) (w : World) (ha : a < 256) :
    Calls Try.prog 57 #[.int .u8 a] w fun e w' => e = .returned (.int .u8 (inv a : Nat)) ∧ w = w' := by
  by_cases h0 : a = 0
  · subst h0
    go_enter Try.func57, Try.ntmps57
    go_wp2
    go_ret
    exact ⟨rfl, rfl⟩
  · have hb : ((a : Int) == 0) = false := by simp; omega
    have hl := lg_lt ha h0
    have H0 := Lib.hid h0
    have hlog : ∀ w, Calls Try.prog 67 #[.int .u8 a] w fun e w' => e = .returned (.int .i64 ((lg a : Nat) : Int)) ∧ w = w' := fun w => by
      have := log_any a w ha
      unfold lgI at this
      rwa [if_neg h0] at this
    have HL := Lib.hid hlog
    clear h0 hlog
    go_enter Try.func57, Try.ntmps57
    go_wp2_with (first | (go_at_call 67; refine (HL.out _).mono ?_; rintro e w' ⟨rfl, rfl⟩) | (go_at_call 58; refine (pow_any _ _).mono ?_; rintro e w' ⟨rfl, rfl⟩))
    go_ret
    refine ⟨ret_u8 ?_, rfl⟩
    unfold inv
    rw [if_neg H0.out, show (-((lg a : Nat) : Int) % 255).toNat = (255 - lg a) % 255 by omega, pw_mod]

end Go.Proofs.Ytknodcaknopcnaa
