/- The walks of the reference's field (wattleref01): the same plain field. -/
import Derived.Test.YtknodcaknopcnaaGfWalks
namespace Go.Proofs.Ytknodcaknopcnaa
open Go.RowKit G
set_option linter.unusedVariables false
set_option linter.unusedSimpArgs false
set_option maxRecDepth 100000
set_option maxHeartbeats 1000000

theorem dbl_285 : ∀ x, x < 256 → dbl x = if x * 2 > 255 then (x * 2) ^^^ 285 else x * 2 := by decide +kernel
theorem bx64 {a b : Nat} (ha : a < 2 ^ 62) (hb : b < 2 ^ 62) : bits .xor .i64 (a : Int) (b : Int) = ((a ^^^ b : Nat) : Int) := by
  have h : a ^^^ b < 2 ^ 62 := Nat.xor_lt_two_pow ha hb
  show IntKind.i64.wrap ((BitVec.ofInt 64 (a : Int) ^^^ BitVec.ofInt 64 (b : Int)).toNat : Int) = _
  simp only [BitVec.ofInt_natCast, IntKind.wrap_i64, BitVec.toNat_xor, BitVec.toNat_ofNat]
  rw [Nat.mod_eq_of_lt (show a < 2 ^ 64 by omega), Nat.mod_eq_of_lt (show b < 2 ^ 64 by omega)]
  omega
theorem refmul_any (a b : Nat) (w : World) (ha : a < 256) (hb : b < 256) :
    Calls Try.prog 31 #[.int .u8 a, .int .u8 b] w fun e w' => e = .returned (.int .u8 (gm a b : Nat)) ∧ w = w' := by
  go_enter Try.func31, Try.ntmps31
  go_wp2
  go_loop [5, 6, 7] (fun x y i => ∃ k x' y' : Nat, k ≤ 8 ∧ x = .int .i64 x' ∧ y = .int .i64 y' ∧ i = .int .i64 k ∧ x' < 256 ∧ y' < 256 ∧ Hid (mulA (8 - k) x' (b / 2 ^ k) y' = gm a b)) (fun _ _ i => 8 - (intOf i).toNat)
  case atStart => exact ⟨0, a, 0, by decide, rfl, rfl, rfl, ha, by decide, Lib.hid (by simp; rfl)⟩
  case round =>
    obtain ⟨k, x, y, hk, rfl, rfl, rfl, hx, hy, H⟩ := hrel
    by_cases hlt : k < 8
    · have hxo := bx64 (a := y) (b := x) (by omega) (by omega)
      have hbk : b / 2 ^ k < 256 := Nat.lt_of_le_of_lt (Nat.div_le_self _ _) hb
      have hand := band1 hbk
      rw [show ((b / 2 ^ k : Nat) : Int) = (b : Int) / 2 ^ k by push_cast; rfl] at hand
      have hyx : y ^^^ x < 256 := G.xor8 hy hx
      have HD := Lib.hid (dbl_285 x hx)
      have hdx := dbl_lt x hx
      have e8 : 8 - k = (8 - (k + 1)) + 1 := by omega
      have HM : Hid (mulA (8 - (k + 1)) (dbl x) (b / 2 ^ (k + 1)) (if (b / 2 ^ k) % 2 = 1 then y ^^^ x else y) = gm a b) := by
        have := H.out
        rw [e8] at this
        rw [Nat.pow_succ, ← Nat.div_div_eq_div_mul]
        exact this
      have hx2 := bx64 (a := x * 2) (b := 285) (by omega) (by omega)
      rw [show ((x * 2 : Nat) : Int) = (x : Int) * 2 by push_cast; rfl, show ((285 : Nat) : Int) = 285 from rfl] at hx2
      clear e8 H
      by_cases hc : x * 2 > 255
      · rw [if_pos hc] at HD
        rcases Nat.mod_two_eq_zero_or_one (b / 2 ^ k) with hm | hm
        all_goals
          rw [hm] at hand HM
          clear hm
          go_wp2
          go_round
          case rel => exact ⟨k + 1, dbl x, _, by omega, by rw [HD.out], rfl, by go_num, hdx, by first | exact hyx | exact hy, HM⟩
          case measure => simp [intOf]; omega
      · rw [if_neg hc] at HD
        rcases Nat.mod_two_eq_zero_or_one (b / 2 ^ k) with hm | hm
        all_goals
          rw [hm] at hand HM
          clear hm
          go_wp2
          go_round
          case rel => exact ⟨k + 1, dbl x, _, by omega, by rw [HD.out]; push_cast; rfl, rfl, by go_num, hdx, by first | exact hyx | exact hy, HM⟩
          case measure => simp [intOf]; omega
    · go_wp2
      go_ret
      have := H.out
      rw [show 8 - k = 0 by omega] at this
      exact ⟨ret_u8 (by rw [← this]; rfl), rfl⟩

theorem refpow_any (n : Int) (w : World) :
    Calls Try.prog 30 #[.int .i64 n] w fun e w' => e = .returned (.int .u8 (pw (n % 255).toNat : Nat)) ∧ w = w' := by
  obtain ⟨m, hm⟩ : ∃ m : Nat, (m : Int) = n % 255 := ⟨(n % 255).toNat, by omega⟩
  have hm2 : m < 255 := by omega
  have ht := tmod255 n
  by_cases hneg : n.tmod 255 < 0
  all_goals
    have HA : Hid ((m : Int) = n % 255) := hm
    have ha : (if n.tmod 255 < 0 then n.tmod 255 + 255 else n.tmod 255) = (m : Int) := by rw [hm]; rw [tmod_cases] at hneg ⊢; split at hneg <;> split <;> omega
    first | rw [if_pos hneg] at ha | rw [if_neg hneg] at ha
    clear hm
    go_enter Try.func30, Try.ntmps30
    go_wp2
    go_loop [0, 3] (fun i x => ∃ k : Nat, k ≤ m ∧ x = .int .u8 (pw (m - k) : Nat) ∧ i = .int .i64 k) (fun i _ => (intOf i).toNat)
    case atStart => exact ⟨m, Nat.le_refl _, by simp; rfl, rfl⟩
    case round =>
      obtain ⟨k, hk, rfl, rfl⟩ := hrel
      clear ha
      by_cases hlt : 0 < k
      · have := pw_lt (m - k)
        go_wp2_with (go_at_call 31; refine (refmul_any _ _ _ (by assumption) (by decide)).mono ?_; rintro e w' ⟨rfl, rfl⟩)
        go_round
        case rel => exact ⟨k - 1, by omega, by rw [gm_two_right this, show m - (k - 1) = (m - k) + 1 by omega]; rfl, by go_num⟩
        case measure => simp [intOf]; omega
      · go_wp2
        go_ret
        exact ⟨ret_u8 (by rw [← HA.out, Int.toNat_natCast, show m - k = m by omega]), rfl⟩

end Go.Proofs.Ytknodcaknopcnaa
