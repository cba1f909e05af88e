/- The walk of GfAll (chapter 2): all powers are unlike; each has its own inverse. True at every input. -/
import Derived.Test.YtghbbceephcifaaGfLaws
import Derived.Test.YtghbbceephcifaaLib
import Derived.Test.YtghbbceephcifaaMap
namespace Go.Proofs.Ytghbbceephcifaa
open Go.RowKit G
set_option linter.unusedVariables false
set_option linter.unusedSimpArgs false
set_option maxRecDepth 100000
set_option maxHeartbeats 4000000

theorem pwI_apart (s : Int) {j k : Nat} (hj : j < k) (hk : k < 255) : pwI (s + j) ≠ pwI (s + k) := by
  intro h
  unfold pwI at h
  have := pw_inj (by omega) (by omega) h
  omega
theorem lg_inv {a : Nat} (ha : a < 256) (h0 : a ≠ 0) : lg (inv a) = (255 - lg a) % 255 := by
  have hl := lg_lt ha h0
  unfold inv; rw [if_neg h0, ← pw_mod, lg_pw (Nat.mod_lt _ (by decide))]
def HadI (s : Int) (k : Nat) (es : List (Int × Value)) : Prop :=
  es.length = k ∧ (∀ j, j < k → getM es ((pwI (s + j) : Nat) : Int) = some (.bool true)) ∧ ∀ x, (∀ j, j < k → ((pwI (s + j) : Nat) : Int) ≠ x) → getM es x = none
theorem HadI.none {s : Int} {k : Nat} {es : List (Int × Value)} (h : HadI s k es) (hk : k < 255) : getM es ((pwI (s + k) : Nat) : Int) = .none :=
  h.2.2 _ fun j hj e => pwI_apart s hj hk (by omega)
theorem HadI.step {s : Int} {k : Nat} {es : List (Int × Value)} (h : HadI s k es) (hk : k < 255) : HadI s (k + 1) (updM es ((pwI (s + k) : Nat) : Int) (.bool true)) := by
  have hn := h.none hk
  refine ⟨by rw [length_upd, if_pos hn, h.1], fun j hj => ?_, fun x hx => ?_⟩
  · rw [getM_upd]; split
    · rfl
    · rename_i hne
      by_cases hjk : j = k
      · exact absurd (by rw [hjk]) hne
      · exact h.2.1 j (by omega)
  · rw [getM_upd, if_neg (hx k (by omega))]
    exact h.2.2 x fun j hj => hx j (by omega)
theorem gfAll_walk (n : Int) (w : World) (hn : -9223372036854775808 ≤ n ∧ n ≤ 9223372036854775807) :
    Calls Try.prog 9 #[.int .i64 n] w fun e w' => e = .returned (.bool true) ∧ Below w.heap.size w w' := by
  have b1 : -100000 < n.tmod 100000 := by rw [tmod_cases]; split <;> omega
  have b2 : n.tmod 100000 < 100000 := by rw [tmod_cases]; split <;> omega
  have hz : ∀ w : World, (zeroValue 4).run Try.prog w = .ok (.bool false) w := fun w => by kernel_rfl
  have HZ := Lib.hid hz
  clear hz
  have hmm := @run_makeMap Try.prog
  go_enter Try.func9, Try.ntmps9
  go_wp2_with fail
  clear hmm
  go_loopw [4, 5] (fun i x wr => ∃ (k : Nat) (es : List (Int × Value)), k ≤ 255 ∧ i = .int .i64 k ∧ MapI .u8 wr w.heap.size es ∧ HadI (n.tmod 100000) k es ∧ Below w.heap.size w wr) (fun i _ _ => 255 - (intOf i).toNat)
  case atStart => exact ⟨0, [], by decide, rfl, MapI.made _ _, ⟨rfl, fun j hj => by omega, fun x _ => rfl⟩, belAlloc (Below.refl _ _) _⟩
  case round =>
    obtain ⟨k, es, hk, rfl, hM, hH, hB⟩ := hrel
    by_cases hlt : k < 255
    · have hnone := hH.none hlt
      have hstep := hH.step hlt
      obtain ⟨x, hx⟩ : ∃ x, x = pwI (n.tmod 100000 + k) := ⟨_, rfl⟩
      have hx8 : x < 256 := hx ▸ pwI_lt _
      have hx0 : x ≠ 0 := hx ▸ pwI_ne _
      have hpow : ∀ w, Calls Try.prog 30 #[.int .i64 (n.tmod 100000 + k)] w fun e w' => e = .returned (.int .u8 (x : Nat)) ∧ w = w' := fun w => hx ▸ powI _ w
      rw [← hx] at hnone hstep
      have HP := Lib.hid hpow
      have HN := Lib.hid hnone
      clear hpow hx hnone
      have e1 : inv (inv x) = x := inv_inv hx8
      have e2 : gm 1 (inv x) = inv x := gm_one_left (inv_lt x)
      have li := inv_lt x
      have l1 : 1 ≤ inv x := by have := inv_ne_zero hx0; omega
      have l2 : 1 ≤ x := by omega
      have lg1 := lg_lt hx8 hx0
      have e3 : -((lg x : Nat) : Int) % 255 = ((lg (inv x) : Nat) : Int) := by rw [lg_inv hx8 hx0]; omega
      have hb : ((x : Int) == 0) = false := by rw [beq_eq_false_iff_ne]; omega
      have hlook := hM.look Try.underlying48 Try.underlying5 (HZ.out _) (x : Int)
      rw [HN.out, Option.getD_none] at hlook
      clear hx0
      go_wp2_with (first
        | (go_at_call 30; refine (HP.out _).mono ?_; rintro e w' ⟨rfl, rfl⟩)
        | (go_at_call 29; refine (div_i _ _ _ (by omega) (by omega) (by omega) (by omega)).mono ?_; rintro e w' ⟨rfl, rfl⟩)
        | (go_at_call 31; refine (inv_i _ _ (by omega) (by omega)).mono ?_; rintro e w' ⟨rfl, rfl⟩)
        | (go_at_call 32; refine (log_nz _ _ (by omega) (by omega)).mono ?_; rintro e w' ⟨rfl, rfl⟩)
        | (at_mapUpdate; refine wpList_storeI rfl _ _ _ 48 rfl 5 4 .u8 Try.underlying48 Try.underlying5 w.heap.size es x (.bool true) rfl rfl rfl hM ?_; intro w1 hM1 hg1 hs1))
      go_roundw
      case rel => exact ⟨k + 1, _, by omega, by go_num, hM1, hstep, hB.grown hg1 hB.size (fun k hk => by cases hk; exact Nat.le_refl _)⟩
      case measure => simp [intOf]; omega
    · have he : k = 255 := by omega
      have hl : es.length = 255 := by rw [hH.1, he]
      have HL := Lib.hid hl
      clear hl he
      go_wp2_with (first
        | (at_len; refine wpList_lenI rfl _ 48 rfl 5 4 .u8 Try.underlying48 w.heap.size es rfl hM ?_; rw [HL.out])
        | (go_at_call 20; refine (wakes2_any _).mono ?_; rintro e w' ⟨rfl, rfl⟩))
      go_ret
      exact ⟨rfl, hB⟩
theorem gfAll_law (n : Int) (hn : -9223372036854775808 ≤ n ∧ n ≤ 9223372036854775807) (W : World) :
    Calls Try.prog 9 #[.int .i64 n] W fun e W' => e = .returned (.bool true) ∧ Below W.heap.size W W' := gfAll_walk n W hn
end Go.Proofs.Ytghbbceephcifaa
