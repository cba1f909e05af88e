/- The walks of the laws of chapter 2 (gf): each answers true at every input. -/
import Derived.Test.YtghbbceephcifaaGfRef
namespace Go.Proofs.Ytghbbceephcifaa
open Go.RowKit G
set_option linter.unusedVariables false
set_option linter.unusedSimpArgs false
set_option maxRecDepth 100000
set_option maxHeartbeats 1000000

section
variable (x y n : Int) (w : World)
theorem mul_i (hx : 0 ≤ x) (hx2 : x < 256) (hy : 0 ≤ y) (hy2 : y < 256) :
    Calls Try.prog 19 #[.int .u8 x, .int .u8 y] w fun e w' => e = .returned (.int .u8 (gm x.toNat y.toNat : Nat)) ∧ w = w' := by
  obtain ⟨a, rfl⟩ := Int.eq_ofNat_of_zero_le hx
  obtain ⟨b, rfl⟩ := Int.eq_ofNat_of_zero_le hy
  exact mul_any a b w (by omega) (by omega)
theorem div_i (hx : 0 ≤ x) (hx2 : x < 256) (hy : 0 ≤ y) (hy2 : y < 256) :
    Calls Try.prog 29 #[.int .u8 x, .int .u8 y] w fun e w' => e = .returned (.int .u8 (gm x.toNat (inv y.toNat) : Nat)) ∧ w = w' := by
  obtain ⟨a, rfl⟩ := Int.eq_ofNat_of_zero_le hx
  obtain ⟨b, rfl⟩ := Int.eq_ofNat_of_zero_le hy
  exact div_any a b w (by omega) (by omega)
theorem inv_i (hx : 0 ≤ x) (hx2 : x < 256) :
    Calls Try.prog 31 #[.int .u8 x] w fun e w' => e = .returned (.int .u8 (inv x.toNat : Nat)) ∧ w = w' := by
  obtain ⟨a, rfl⟩ := Int.eq_ofNat_of_zero_le hx
  exact inv_any a w (by omega)
theorem log_i (hx : 0 ≤ x) (hx2 : x < 256) :
    Calls Try.prog 32 #[.int .u8 x] w fun e w' => e = .returned (.int .i64 (lgI x.toNat)) ∧ w = w' := by
  obtain ⟨a, rfl⟩ := Int.eq_ofNat_of_zero_le hx
  exact log_any a w (by omega)
theorem log_nz (hx : 1 ≤ x) (hx2 : x < 256) :
    Calls Try.prog 32 #[.int .u8 x] w fun e w' => e = .returned (.int .i64 (lg x.toNat : Nat)) ∧ w = w' := by
  obtain ⟨a, rfl⟩ := Int.eq_ofNat_of_zero_le (show 0 ≤ x by omega)
  have := log_any a w (by omega)
  unfold lgI at this
  rwa [if_neg (by omega)] at this
theorem rmul_i (hx : 0 ≤ x) (hx2 : x < 256) (hy : 0 ≤ y) (hy2 : y < 256) :
    Calls Try.prog 33 #[.int .u8 x, .int .u8 y] w fun e w' => e = .returned (.int .u8 (gm x.toNat y.toNat : Nat)) ∧ w = w' := by
  obtain ⟨a, rfl⟩ := Int.eq_ofNat_of_zero_le hx
  obtain ⟨b, rfl⟩ := Int.eq_ofNat_of_zero_le hy
  exact refmul_any a b w (by omega) (by omega)
theorem rinv_i (hx : 0 ≤ x) (hx2 : x < 256) :
    Calls Try.prog 34 #[.int .u8 x] w fun e w' => e = .returned (.int .u8 (inv x.toNat : Nat)) ∧ w = w' := by
  obtain ⟨a, rfl⟩ := Int.eq_ofNat_of_zero_le hx
  exact refinv_any a w (by omega)
theorem rlog_i (hx : 0 ≤ x) (hx2 : x < 256) :
    Calls Try.prog 36 #[.int .u8 x] w fun e w' => e = .returned (.int .i64 (lgI x.toNat)) ∧ w = w' := by
  obtain ⟨a, rfl⟩ := Int.eq_ofNat_of_zero_le hx
  exact reflog_any a w (by omega)
end
/-- 2 to any n -/
def pwI (n : Int) : Nat := pw (n % 255).toNat
theorem pwI_lt (n : Int) : pwI n < 256 := pw_lt _
theorem pwI_add (m n : Int) : gm (pwI m) (pwI n) = pwI (m + n) := by
  unfold pwI
  rw [pw_add, ← pw_mod]
  congr 1
  omega
theorem pwI_nat (n : Nat) : pwI (n : Int) = pw n := by
  unfold pwI
  rw [show ((n : Int) % 255).toNat = n % 255 by omega, pw_mod]
theorem pwI_neg (m : Int) : gm (pwI m) (pwI (-m)) = 1 := by
  rw [pwI_add, show m + -m = ((0 : Nat) : Int) by omega, pwI_nat]; rfl
theorem pwI_255 (m : Int) : pwI (m + 255) = pwI m := by
  unfold pwI; congr 1; omega
theorem pwI_ne (m : Int) : pwI m ≠ 0 := pw_ne_zero _
theorem powI (n : Int) (w : World) :
    Calls Try.prog 30 #[.int .i64 n] w fun e w' => e = .returned (.int .u8 (pwI n : Nat)) ∧ w = w' := pow_any n w
theorem gm128 : gm 128 2 = 29 := by decide +kernel
theorem wakes2_any (w : World) : Calls Try.prog 20 #[] w fun e w' => e = .returned (.bool true) ∧ w = w' := by
  have hg : ((gm 128 2 : Nat) : Int) = 29 := by rw [gm128]; rfl
  go_enter Try.func20, Try.ntmps20
  go_wp2_with (go_at_call 19; refine (mul_i _ _ _ (by decide) (by decide) (by decide) (by decide)).mono ?_; rintro e w' ⟨rfl, rfl⟩)
  go_ret
  exact ⟨rfl, rfl⟩

theorem gfTells_walk (a b : Nat) (n : Int) (w : World) (ha : a < 256) (hb : b < 256) :
    Calls Try.prog 10 #[.int .u8 a, .int .u8 b, .int .i64 n] w fun e w' => e = .returned (.bool true) ∧ w = w' := by
  have hi := inv_lt a
  have hj := inv_lt b
  have hg : gm a b < 256 := gm_lt b ha
  go_enter Try.func10, Try.ntmps10
  go_wp2_with (first
    | (go_at_call 19; refine (mul_i _ _ _ (by omega) (by omega) (by omega) (by omega)).mono ?_; rintro e w' ⟨rfl, rfl⟩)
    | (go_at_call 33; refine (rmul_i _ _ _ (by omega) (by omega) (by omega) (by omega)).mono ?_; rintro e w' ⟨rfl, rfl⟩)
    | (go_at_call 29; refine (div_i _ _ _ (by omega) (by omega) (by omega) (by omega)).mono ?_; rintro e w' ⟨rfl, rfl⟩)
    | (go_at_call 31; refine (inv_i _ _ (by omega) (by omega)).mono ?_; rintro e w' ⟨rfl, rfl⟩)
    | (go_at_call 34; refine (rinv_i _ _ (by omega) (by omega)).mono ?_; rintro e w' ⟨rfl, rfl⟩)
    | (go_at_call 32; refine (log_i _ _ (by omega) (by omega)).mono ?_; rintro e w' ⟨rfl, rfl⟩)
    | (go_at_call 36; refine (rlog_i _ _ (by omega) (by omega)).mono ?_; rintro e w' ⟨rfl, rfl⟩)
    | (go_at_call 30; refine (pow_any _ _).mono ?_; rintro e w' ⟨rfl, rfl⟩)
    | (go_at_call 35; refine (refpow_any _ _).mono ?_; rintro e w' ⟨rfl, rfl⟩)
    | (go_at_call 20; refine (wakes2_any _).mono ?_; rintro e w' ⟨rfl, rfl⟩))
  go_ret
  exact ⟨rfl, rfl⟩

def sqn : Nat → Nat → Nat
  | 0, a => a
  | n + 1, a => sqn n (gm a a)
theorem sqn_all : allB 256 (fun a => sqn 8 a == a) = true := by decide +kernel
theorem gfSquares_walk (a b : Nat) (w : World) (ha : a < 256) (hb : b < 256) :
    Calls Try.prog 4 #[.int .u8 a, .int .u8 b] w fun e w' => e = .returned (.bool true) ∧ w = w' := by
  have hx := bx8 ha hb
  have hxl := G.xor8 ha hb
  have hsq := gm_sq ha hb
  have la : gm a a < 256 := gm_lt a ha
  have lb : gm b b < 256 := gm_lt b hb
  have hy := bx8 la lb
  have h8 : Hid (sqn 8 a = a) := Lib.hid (by have := allB_spec sqn_all a ha; simpa using this)
  go_enter Try.func4, Try.ntmps4
  go_wp2_with (first
    | (go_at_call 19; refine (mul_i _ _ _ (by omega) (by omega) (by omega) (by omega)).mono ?_; rintro e w' ⟨rfl, rfl⟩))
  clear hx hsq hy
  go_loop [6, 7] (fun x i => ∃ k x' : Nat, k ≤ 8 ∧ x = .int .u8 x' ∧ i = .int .i64 k ∧ x' < 256 ∧ Hid (sqn (8 - k) x' = a)) (fun _ i => 8 - (intOf i).toNat)
  case atStart => exact ⟨0, a, by decide, rfl, rfl, ha, h8⟩
  case round =>
    obtain ⟨k, x, hk, rfl, rfl, hx, H⟩ := hrel
    by_cases hlt : k < 8
    · have hl : gm x x < 256 := gm_lt x hx
      go_wp2_with (first
        | (go_at_call 19; refine (mul_i _ _ _ (by omega) (by omega) (by omega) (by omega)).mono ?_; rintro e w' ⟨rfl, rfl⟩))
      go_round
      case rel => exact ⟨k + 1, gm x x, by omega, rfl, by go_num, hl, by have := H.out; rw [show 8 - k = (8 - (k + 1)) + 1 by omega] at this; exact this⟩
      case measure => simp [intOf]; omega
    · have he : x = a := by have := H.out; rw [show 8 - k = 0 by omega] at this; exact this
      have hb2 : ((x : Int) == (a : Int)) = true := by rw [he]; simp
      clear he
      go_wp2_with (go_at_call 20; refine (wakes2_any _).mono ?_; rintro e w' ⟨rfl, rfl⟩)
      go_ret
      exact ⟨rfl, rfl⟩

theorem gfField_walk (a b c : Nat) (m n : Int) (w : World) (ha : a < 256) (hb : b < 256) (hc : c < 256) :
    Calls Try.prog 11 #[.int .u8 a, .int .u8 b, .int .u8 c, .int .i64 m, .int .i64 n] w fun e w' => e = .returned (.bool true) ∧ w = w' := by
  have b1 : -100000 < m.tmod 100000 := by rw [tmod_cases]; split <;> omega
  have b2 : m.tmod 100000 < 100000 := by rw [tmod_cases]; split <;> omega
  have b3 : -100000 < n.tmod 100000 := by rw [tmod_cases]; split <;> omega
  have b4 : n.tmod 100000 < 100000 := by rw [tmod_cases]; split <;> omega
  have lab : gm a b < 256 := gm_lt b ha
  have lac : gm a c < 256 := gm_lt c ha
  have lbc : gm b c < 256 := gm_lt c hb
  have li := inv_lt b
  have lai : gm a (inv b) < 256 := gm_lt _ ha
  have lx := G.xor8 hb hc
  have x1 := bx8 hb hc
  have x2 := bx8 lab lac
  have e1 : gm b a = gm a b := gm_comm hb ha
  have e2 : gm (gm a b) c = gm a (gm b c) := (gm_assoc ha hb hc).symm
  have e3 : gm a (b ^^^ c) = gm a b ^^^ gm a c := gm_xor_right a b c
  have e4 : gm a 1 = a := gm_one_right ha
  have e5 : gm a 0 = 0 := gm_zero_right a
  have p1 := pwI_lt (m.tmod 100000)
  have p2 := pwI_lt (n.tmod 100000)
  have p3 := pwI_lt (-(m.tmod 100000))
  have p4 := pwI_add (m.tmod 100000) (n.tmod 100000)
  have p5 := pwI_neg (m.tmod 100000)
  have p6 : pwI 0 = 1 := by decide
  have p7 : pwI 255 = 1 := by decide
  have i0 : inv 0 = 0 := rfl
  have l0 : lgI 0 = -1 := rfl
  by_cases hb0 : b = 0
  · subst hb0
    have x3 : bits .xor .u8 0 (c : Int) = (c : Int) := by rw [show (0 : Int) = ((0 : Nat) : Int) from rfl, bx8 hb hc, Nat.zero_xor]
    have x4 : bits .xor .u8 0 ((gm a c : Nat) : Int) = ((gm a c : Nat) : Int) := by rw [show (0 : Int) = ((0 : Nat) : Int) from rfl, bx8 (by omega) lac, Nat.zero_xor]
    clear e1 x1 x2 e2 e3 lx
    have e1 : gm 0 a = 0 := gm_zero_left a
    have e6 : gm 0 c = 0 := gm_zero_left c
    go_enter Try.func11, Try.ntmps11
    go_wp2_with (first
      | (go_at_call 19; refine (mul_i _ _ _ (by omega) (by omega) (by omega) (by omega)).mono ?_; rintro e w' ⟨rfl, rfl⟩)
      | (go_at_call 29; refine (div_i _ _ _ (by omega) (by omega) (by omega) (by omega)).mono ?_; rintro e w' ⟨rfl, rfl⟩)
      | (go_at_call 31; refine (inv_i _ _ (by omega) (by omega)).mono ?_; rintro e w' ⟨rfl, rfl⟩)
      | (go_at_call 32; refine (log_i _ _ (by omega) (by omega)).mono ?_; rintro e w' ⟨rfl, rfl⟩)
      | (go_at_call 30; refine (powI _ _).mono ?_; rintro e w' ⟨rfl, rfl⟩)
      | (go_at_call 20; refine (wakes2_any _).mono ?_; rintro e w' ⟨rfl, rfl⟩))
    go_ret
    exact ⟨rfl, rfl⟩
  · have hbn : ((b : Int) != 0) = true := by rw [bne_iff_ne]; omega
    have e6 : gm (gm a (inv b)) b = a := by rw [← gm_assoc ha li hb, inv_gm hb hb0, gm_one_right ha]
    have e7 : gm b (inv b) = 1 := gm_inv hb hb0
    have e8 : pwI ((lg b : Nat) : Int) = b := by rw [pwI_nat, pw_lg hb hb0]
    have hbp : 1 ≤ b := by omega
    have ll := lg_lt hb hb0
    clear hb0
    go_enter Try.func11, Try.ntmps11
    go_wp2_with (first
      | (go_at_call 19; refine (mul_i _ _ _ (by omega) (by omega) (by omega) (by omega)).mono ?_; rintro e w' ⟨rfl, rfl⟩)
      | (go_at_call 29; refine (div_i _ _ _ (by omega) (by omega) (by omega) (by omega)).mono ?_; rintro e w' ⟨rfl, rfl⟩)
      | (go_at_call 31; refine (inv_i _ _ (by omega) (by omega)).mono ?_; rintro e w' ⟨rfl, rfl⟩)
      | (go_at_call 32; refine (log_nz _ _ (by omega) (by omega)).mono ?_; rintro e w' ⟨rfl, rfl⟩)
      | (go_at_call 32; refine (log_i _ _ (by omega) (by omega)).mono ?_; rintro e w' ⟨rfl, rfl⟩)
      | (go_at_call 30; refine (powI _ _).mono ?_; rintro e w' ⟨rfl, rfl⟩)
      | (go_at_call 20; refine (wakes2_any _).mono ?_; rintro e w' ⟨rfl, rfl⟩))
    go_ret
    exact ⟨rfl, rfl⟩

section
theorem byte_nat {x : Int} (h : 0 ≤ x ∧ x ≤ 255) : ∃ a : Nat, x = (a : Int) ∧ a < 256 := ⟨x.toNat, by omega, by omega⟩
theorem gfTells_law (x : Int) (hx : 0 ≤ x ∧ x ≤ 255) (y : Int) (hy : 0 ≤ y ∧ y ≤ 255) (n : Int) (hn : -9223372036854775808 ≤ n ∧ n ≤ 9223372036854775807) (W : World) :
    Calls Try.prog 10 #[.int .u8 x, .int .u8 y, .int .i64 n] W fun e W' => e = .returned (.bool true) ∧ Below W.heap.size W W' := by
  obtain ⟨a, rfl, ha⟩ := byte_nat hx
  obtain ⟨b, rfl, hb⟩ := byte_nat hy
  exact (gfTells_walk a b n W ha hb).mono fun e w' ⟨he, hw⟩ => ⟨he, hw ▸ Below.refl _ _⟩
theorem gfSquares_law (x : Int) (hx : 0 ≤ x ∧ x ≤ 255) (y : Int) (hy : 0 ≤ y ∧ y ≤ 255) (W : World) :
    Calls Try.prog 4 #[.int .u8 x, .int .u8 y] W fun e W' => e = .returned (.bool true) ∧ Below W.heap.size W W' := by
  obtain ⟨a, rfl, ha⟩ := byte_nat hx
  obtain ⟨b, rfl, hb⟩ := byte_nat hy
  exact (gfSquares_walk a b W ha hb).mono fun e w' ⟨he, hw⟩ => ⟨he, hw ▸ Below.refl _ _⟩
theorem gfField_law (x : Int) (hx : 0 ≤ x ∧ x ≤ 255) (y : Int) (hy : 0 ≤ y ∧ y ≤ 255) (z : Int) (hz : 0 ≤ z ∧ z ≤ 255) (m : Int) (hm : -9223372036854775808 ≤ m ∧ m ≤ 9223372036854775807) (n : Int) (hn : -9223372036854775808 ≤ n ∧ n ≤ 9223372036854775807) (W : World) :
    Calls Try.prog 11 #[.int .u8 x, .int .u8 y, .int .u8 z, .int .i64 m, .int .i64 n] W fun e W' => e = .returned (.bool true) ∧ Below W.heap.size W W' := by
  obtain ⟨a, rfl, ha⟩ := byte_nat hx
  obtain ⟨b, rfl, hb⟩ := byte_nat hy
  obtain ⟨c, rfl, hc⟩ := byte_nat hz
  exact (gfField_walk a b c m n W ha hb hc).mono fun e w' ⟨he, hw⟩ => ⟨he, hw ▸ Below.refl _ _⟩
end
end Go.Proofs.Ytghbbceephcifaa
