/- The law DiskErrors: what may not be asked for; a disk that has failed says so first. -/
import Derived.Test.YtggljcdkiaggeaaDiskA
namespace Go.Proofs.Ytggljcdkiaggeaa
open Go.RowKit
set_option linter.unusedVariables false
set_option linter.unusedSimpArgs false
set_option maxRecDepth 100000
set_option maxHeartbeats 2000000
namespace D
theorem may_out {d : Dk} (hf : d.f = false) {z : Int} (hz : z < 0 ∨ 52 ≤ z) : may d z = 4 := by
  unfold may; rw [hf, if_neg (by decide), if_pos hz]
theorem put_out {d : Dk} (hf : d.f = false) {z : Int} (hz : z < 0 ∨ 52 ≤ z) (x : List Nat) : putI d z x = 4 := by
  unfold putI; rw [may_out hf hz, if_pos (by decide)]
theorem may_dead {d : Dk} (hf : d.f = true) (z : Int) : may d z = 5 := by
  unfold may; rw [if_pos hf]
theorem put_dead {d : Dk} (hf : d.f = true) (z : Int) (x : List Nat) : putI d z x = 5 := by
  unfold putI; rw [may_dead hf, if_pos (by decide)]
theorem put_in {d : Dk} (hf : d.f = false) {z : Int} (h0 : 0 ≤ z) (h1 : z < 52) {x : List Nat} : putI d z x = if x.length = 32 then 0 else 1 := by
  have hm : may d z = 0 := by unfold may; rw [hf, if_neg (by decide), if_neg (by omega)]
  unfold putI; rw [hm, if_neg (by decide)]
  by_cases hl : x.length = 32
  · rw [if_neg (by simpa using hl), if_pos hl]
  · rw [if_pos hl, if_neg hl]
theorem wrote_f (d : Dk) (z : Int) (x : List Nat) : (wrote d z x).f = d.f := by unfold wrote; split <;> rfl
theorem hurt_f (d : Dk) (z : Int) (x : List Nat) : (hurt d z x).f = d.f := by unfold hurt; split <;> rfl
theorem wrote_len (d : Dk) (z : Int) (x : List Nat) : (wrote d z x).p.length ≤ d.p.length + 1 := by
  unfold wrote; split
  · simp [write]
  · omega
theorem hurt_len (d : Dk) (z : Int) (x : List Nat) : (hurt d z x).p.length ≤ d.p.length := by
  unfold hurt; split
  · exact List.length_filter_le _ _
  · omega
theorem flushed_f (d : Dk) : (flushed d).f = d.f := by unfold flushed; split <;> rfl
end D
theorem Bools.lit1 (w : World) (b : Bool) (e : TypeId) : Bools (w.alloc (.cells #[.bool b] e)) (.slice (some ⟨w.heap.size, 0, none⟩) 1 1) [b] := by
  refine ⟨_, _, rfl, Nat.le_refl _, by decide, (fun e => by cases e), .inr ⟨_, 0, rfl, by simp, fun i hi => ?_⟩⟩
  have : i = 0 := by simp at hi; omega
  subst this
  rw [cell_of_row _ _ 0 _ _ _ (heap_alloc_new w _)]
  rfl
attribute [local irreducible] Go.Calls Byt Own Parts Bools
theorem diskErrors_law (n : Int) (hn : -9223372036854775808 ≤ n ∧ n ≤ 9223372036854775807) (sz : Int) (hsz : -9223372036854775808 ≤ sz ∧ sz ≤ 9223372036854775807) (W : World) :
    Calls Try.prog 7 #[.int .i64 n, .int .i64 sz] W fun e W' => e = .returned (.bool true) ∧ Below W.heap.size W W' := by
  obtain ⟨j0, hj, hy0, hy1, hy2⟩ := info_parts uint8_info
  go_enter Try.func7, Try.ntmps7
  go_wp2_with fail
  refine Calls.mono (newI W) ?_
  rintro e w1 ⟨rfl, D1, b1⟩
  go_wp2_with fail
  refine Calls.mono (within_any n 1000 _ (by decide) hn.1 hn.2) ?_
  rintro e w2 ⟨rfl, rfl⟩
  have hA0 := withinI_ge n 1000
  have hA1 := withinI_lt n 1000 (by decide)
  obtain ⟨A, hA⟩ : ∃ A, A = withinI n 1000 := ⟨_, rfl⟩
  rw [← hA] at hA0 hA1 ⊢
  clear hA
  go_wp2_with fail
  refine Calls.mono (within_any sz 60 _ (by decide) hsz.1 hsz.2) ?_
  rintro e w2 ⟨rfl, rfl⟩
  have hS0 := withinI_ge sz 60
  have hS1 := withinI_lt sz 60 (by decide)
  obtain ⟨S0, hS⟩ : ∃ S0, S0 = withinI sz 60 := ⟨_, rfl⟩
  rw [← hS] at hS0 hS1 ⊢
  clear hS
  obtain ⟨S, rfl⟩ := Int.eq_ofNat_of_zero_le hS0
  have HL : Hid ((List.replicate S (0 : Nat)).length = S) := List.length_replicate
  by_cases h32 : S = 32
  · have hb : ((S : Int) == 32) = true := by rw [h32]; rfl
    have HP : Hid (∀ (d : D.Dk) (z : Int), d.f = false → 0 ≤ z → z < 52 → putI d z (List.replicate S 0) = 0) := fun d z hf h0 h1 => by rw [D.put_in hf h0 h1, HL.out, if_pos h32]
    clear h32
    go_wp2_with (first
      | (at_make; go_loud (refine wpList_make_bytes rfl _ _ 29 rfl j0 Try.underlying29 hj hy0 hy1 hy2 _ _ _ _ S rfl rfl (by simp) (by simp) (by omega) ?_); intro w2 O2 b2)
      | fail)
    refine Calls.mono (readA w2 _ _ _ _ _ (D1.up b2)) ?_
    rw [D.may_out rfl (.inl (by omega))]
    rintro e w3 ⟨v3, rfl, _, b3⟩
    go_wp2_with fail
    refine Calls.mono (readA w3 _ _ _ _ _ ((D1.up b2).up b3)) ?_
    rw [D.may_out rfl (.inr (by omega))]
    rintro e w4 ⟨v4, rfl, _, b4⟩
    have D4 := ((D1.up b2).up b3).up b4
    have O4 := (O2.up b3).up b4
    have B4 := belT (belT (belT b1 b2) b3) b4
    have A4 := apart_made D1 O2 (Nat.le_refl _)
    clear D1 b1 b2 b3 b4 O2
    go_wp2_with fail
    refine Calls.mono (writeA w4 _ _ _ _ _ _ _ D4 O4.byt B4.size (by decide)) ?_
    rw [D.put_out rfl (.inl (by omega))]
    rintro e w5 ⟨rfl, pv5, D5, F5, p5⟩
    rw [show D.wrote D.blank (-(1 + A)) (List.replicate S 0) = D.blank by unfold D.wrote; rw [D.put_out rfl (.inl (by omega)), if_neg (by decide)]] at D5
    have O5 := O4.fr F5 A4
    have A5 := apart_new A4 O4.lt p5
    have B5 := F5.low B4 B4.size (fun b hb => D4.ges b hb)
    clear D4 O4 A4 B4 F5 p5
    go_wp2_with fail
    refine Calls.mono (writeA w5 _ _ _ _ _ _ _ D5 O5.byt B5.size (by decide)) ?_
    rw [D.put_out rfl (.inr (by omega))]
    rintro e w6 ⟨rfl, pv6, D6, F6, p6⟩
    rw [show D.wrote D.blank (51 + (1 + A)) (List.replicate S 0) = D.blank by unfold D.wrote; rw [D.put_out rfl (.inr (by omega)), if_neg (by decide)]] at D6
    have O6 := O5.fr F6 A5
    have A6 := apart_new A5 O5.lt p6
    have B6 := F6.low B5 B5.size (fun b hb => D5.ges b hb)
    clear D5 O5 A5 B5 F6 p6
    go_wp2_with fail
    refine Calls.mono (writeA w6 _ _ _ _ _ _ _ D6 O6.byt B6.size (by decide)) ?_
    rw [HP.out _ 3 rfl (by decide) (by decide)]
    rintro e w7 ⟨rfl, pv7, D7, F7, p7⟩
    have O7 := O6.fr F7 A6
    have A7 := apart_new A6 O6.lt p7
    have B7 := F7.low B6 B6.size (fun b hb => D6.ges b hb)
    obtain ⟨d7, hd7⟩ : ∃ d7, d7 = D.wrote D.blank 3 (List.replicate S 0) := ⟨_, rfl⟩
    have hf7 : d7.f = false := by rw [hd7, D.wrote_f]; rfl
    have hl7 : d7.p.length ≤ 1 := by rw [hd7]; exact D.wrote_len _ _ _
    rw [← hd7] at D7
    have HF7 := Lib.hid hf7
    clear D6 O6 A6 B6 F7 p7 hd7 hf7
    go_wp2_with fail
    refine Calls.mono (dmgA w7 _ _ _ _ _ _ _ D7 O7.byt B7.size (by omega)) ?_
    rw [D.put_out HF7.out (.inl (by omega))]
    rintro e w8 ⟨rfl, pv8, D8, F8, p8⟩
    rw [show D.hurt d7 (-(1 + A)) (List.replicate S 0) = d7 by unfold D.hurt; rw [D.put_out HF7.out (.inl (by omega)), if_neg (by decide)]] at D8
    have O8 := O7.fr F8 A7
    have A8 := apart_new A7 O7.lt p8
    have B8 := F8.low B7 B7.size (fun b hb => D7.ges b hb)
    clear D7 O7 A7 B7 F8 p8
    go_wp2_with fail
    refine Calls.mono (dmgA w8 _ _ _ _ _ _ _ D8 O8.byt B8.size (by omega)) ?_
    rw [HP.out _ 4 HF7.out (by decide) (by decide)]
    rintro e w9 ⟨rfl, pv9, D9, F9, p9⟩
    have O9 := O8.fr F9 A8
    have A9 := apart_new A8 O8.lt p9
    have B9 := F9.low B8 B8.size (fun b hb => D8.ges b hb)
    obtain ⟨d9, hd9⟩ : ∃ d9, d9 = D.hurt d7 4 (List.replicate S 0) := ⟨_, rfl⟩
    have hf9 : d9.f = false := by rw [hd9, D.hurt_f]; exact HF7.out
    have hl9 : d9.p.length ≤ 1 := by rw [hd9]; exact Nat.le_trans (D.hurt_len _ _ _) hl7
    rw [← hd9] at D9
    have HF9 := Lib.hid hf9
    clear D8 O8 A8 B8 F9 p9 hd9 hf9
    go_wp2_with fail
    refine Calls.mono (sector_any _ w9 (by omega)) ?_
    rintro e w10 ⟨v10, rfl, O10, b10⟩
    go_wp2_with fail
    refine Calls.mono (writeA w10 _ _ _ _ _ _ _ (D9.up b10) O10.byt (Nat.le_trans B9.size b10.size) (by omega)) ?_
    rintro e w11 ⟨rfl, pv11, D11, F11, p11⟩
    have O11 := (O9.up b10).fr F11 A9
    have A11 := apart_new A9 (O9.up b10).lt p11
    have B11 := F11.low (belT B9 b10) (belT B9 b10).size (fun b hb => (D9.up b10).ges b hb)
    have hl11 : (D.wrote d9 5 (secL (1 + A))).p.length ≤ 2 := Nat.le_trans (D.wrote_len _ _ _) (by omega)
    have HF11 : Hid ((D.wrote d9 5 (secL (1 + A))).f = false) := by show _ = _; rw [D.wrote_f]; exact HF9.out
    obtain ⟨d11, hd11⟩ : ∃ d11, d11 = D.wrote d9 5 (secL (1 + A)) := ⟨_, rfl⟩
    rw [← hd11] at D11 hl11 HF11
    clear D9 O9 A9 B9 F11 p11 hd11 O10 b10
    go_wp2_with fail
    refine Calls.mono (flushA w11 _ _ _ _ D11) ?_
    rw [HF11.out]
    rintro e w12 ⟨rfl, pv12, D12, F12, p12⟩
    have O12 := O11.fr F12 A11
    have A12 := apart_new A11 O11.lt p12
    have B12 := F12.low B11 B11.size (fun b hb => D11.ges b hb)
    have hl12 : (D.flushed d11).p.length ≤ 2 := by unfold D.flushed; rw [HF11.out]; exact Nat.zero_le _
    obtain ⟨d12, hd12⟩ : ∃ d12, d12 = D.flushed d11 := ⟨_, rfl⟩
    rw [← hd12] at D12 hl12
    clear D11 O11 A11 B11 F12 p12 hd12
    go_wp2_with fail
    refine Calls.mono (sector_any _ w12 (by omega)) ?_
    rintro e w13 ⟨v13, rfl, O13, b13⟩
    go_wp2_with fail
    refine Calls.mono (writeA w13 _ _ _ _ _ _ _ (D12.up b13) O13.byt (Nat.le_trans B12.size b13.size) (by omega)) ?_
    rintro e w14 ⟨rfl, pv14, D14, F14, p14⟩
    have O14 := (O12.up b13).fr F14 A12
    have A14 := apart_new A12 (O12.up b13).lt p14
    have B14 := F14.low (belT B12 b13) (belT B12 b13).size (fun b hb => (D12.up b13).ges b hb)
    clear D12 O12 A12 B12 F14 p14 O13 b13
    go_wp2_with fail
    refine Calls.mono (fail_any w14 _ _ _ _ D14) ?_
    rintro e w15 ⟨rfl, D15, F15⟩
    have O15 := O14.fr (F15.obj (pv := pv14)) A14
    have B15 := (F15.obj (pv := pv14)).low B14 B14.size (fun b hb => D14.ges b hb)
    have A15 := apart_none A14
    clear D14 O14 A14 B14 F15
    go_wp2_with fail
    refine Calls.mono (readA w15 _ _ _ _ _ D15) ?_
    rw [D.may_dead rfl]
    rintro e w16 ⟨v16, rfl, _, b16⟩
    go_wp2_with fail
    refine Calls.mono (readA w16 _ _ _ _ _ (D15.up b16)) ?_
    rw [D.may_dead rfl]
    rintro e w17 ⟨v17, rfl, _, b17⟩
    have D17 := (D15.up b16).up b17
    have O17 := (O15.up b16).up b17
    have B17 := belT (belT B15 b16) b17
    clear D15 O15 B15 b16 b17
    go_wp2_with fail
    refine Calls.mono (crash_any _ _ _ _ _ _ [true] (D17.up (belA1 (belR _))) (Bools.lit1 w17 true _) (fun _ e => by have := D17.lt; have h9 : w17.heap.size = W.heap.size := Option.some.inj e; omega)) ?_
    rintro e w18 ⟨rfl, D18, F18⟩
    have O18 := (O17.up (belA1 (belR _))).fr (F18.obj (pv := .slice none 0 0)) A15
    have B18 := (F18.obj (pv := .slice none 0 0)).low (belA1 B17) (belA1 B17).size (fun b hb => D17.ges b hb)
    have HF18 : Hid ((D.crash D.fail [true]).f = true) := rfl
    have HP18 : Hid ((D.crash D.fail [true]).p = []) := rfl
    obtain ⟨d18, hd18⟩ : ∃ d18, d18 = D.crash D.fail [true] := ⟨_, rfl⟩
    rw [← hd18] at D18 HF18 HP18
    clear D17 O17 B17 F18 hd18
    go_wp2_with fail
    refine Calls.mono (readA w18 _ _ _ _ _ D18) ?_
    rw [D.may_dead HF18.out]
    rintro e w19 ⟨v19, rfl, _, b19⟩
    have D19 := D18.up b19
    have O19 := O18.up b19
    have B19 := belT B18 b19
    clear D18 O18 B18 b19
    go_wp2_with fail
    refine Calls.mono (failed_any _ _ _ _ _ D19) ?_
    rw [HF18.out]
    rintro e w20 ⟨rfl, rfl⟩
    go_wp2_with fail
    refine Calls.mono (writeA _ _ _ _ _ _ _ [] D19 (Byt.nil _) B19.size (by rw [HP18.out]; decide)) ?_
    rw [D.put_dead HF18.out]
    rintro e w20 ⟨rfl, pv20, D20, F20, p20⟩
    rw [show D.wrote d18 (-(1 + A)) [] = d18 by unfold D.wrote; rw [D.put_dead HF18.out, if_neg (by decide)]] at D20
    have O20 := O19.fr F20 A15
    have A20 := apart_new A15 O19.lt p20
    have B20 := F20.low B19 B19.size (fun b hb => D19.ges b hb)
    go_wp2_with fail
    refine Calls.mono (flushA w20 _ _ _ _ D20) ?_
    rw [HF18.out]
    rintro e w21 ⟨rfl, pv21, D21, F21, p21⟩
    rw [show D.flushed d18 = d18 by unfold D.flushed; rw [HF18.out]; rfl] at D21
    have O21 := O20.fr F21 A20
    have A21 := apart_new A20 O20.lt p21
    have B21 := F21.low B20 B20.size (fun b hb => D20.ges b hb)
    go_wp2_with fail
    refine Calls.mono (dmgA w21 _ _ _ _ _ _ _ D21 O21.byt B21.size (by rw [HP18.out]; decide)) ?_
    rw [D.put_dead HF18.out]
    rintro e w22 ⟨rfl, pv22, D22, F22, p22⟩
    rw [show D.hurt d18 1 (List.replicate S 0) = d18 by unfold D.hurt; rw [D.put_dead HF18.out, if_neg (by decide)]] at D22
    have B22 := F22.low B21 B21.size (fun b hb => D21.ges b hb)
    go_wp2_with fail
    refine Calls.mono (pending_any _ _ _ _ _ D22) ?_
    rw [HP18.out]
    rintro e w23 ⟨rfl, rfl⟩
    go_wp2_with fail
    refine Calls.mono (wakes_any _) ?_
    rintro e w24 ⟨rfl, b24⟩
    go_wp2
    go_ret
    exact ⟨rfl, belT B22 b24⟩
  · have hb : ((S : Int) == 32) = false := by rw [beq_eq_false_iff_ne]; omega
    have HP : Hid (∀ (d : D.Dk) (z : Int), d.f = false → 0 ≤ z → z < 52 → putI d z (List.replicate S 0) = 1) := fun d z hf h0 h1 => by rw [D.put_in hf h0 h1, HL.out, if_neg h32]
    clear h32
    go_wp2_with (first
      | (at_make; go_loud (refine wpList_make_bytes rfl _ _ 29 rfl j0 Try.underlying29 hj hy0 hy1 hy2 _ _ _ _ S rfl rfl (by simp) (by simp) (by omega) ?_); intro w2 O2 b2)
      | fail)
    refine Calls.mono (readA w2 _ _ _ _ _ (D1.up b2)) ?_
    rw [D.may_out rfl (.inl (by omega))]
    rintro e w3 ⟨v3, rfl, _, b3⟩
    go_wp2_with fail
    refine Calls.mono (readA w3 _ _ _ _ _ ((D1.up b2).up b3)) ?_
    rw [D.may_out rfl (.inr (by omega))]
    rintro e w4 ⟨v4, rfl, _, b4⟩
    have D4 := ((D1.up b2).up b3).up b4
    have O4 := (O2.up b3).up b4
    have B4 := belT (belT (belT b1 b2) b3) b4
    have A4 := apart_made D1 O2 (Nat.le_refl _)
    clear D1 b1 b2 b3 b4 O2
    go_wp2_with fail
    refine Calls.mono (writeA w4 _ _ _ _ _ _ _ D4 O4.byt B4.size (by decide)) ?_
    rw [D.put_out rfl (.inl (by omega))]
    rintro e w5 ⟨rfl, pv5, D5, F5, p5⟩
    rw [show D.wrote D.blank (-(1 + A)) (List.replicate S 0) = D.blank by unfold D.wrote; rw [D.put_out rfl (.inl (by omega)), if_neg (by decide)]] at D5
    have O5 := O4.fr F5 A4
    have A5 := apart_new A4 O4.lt p5
    have B5 := F5.low B4 B4.size (fun b hb => D4.ges b hb)
    clear D4 O4 A4 B4 F5 p5
    go_wp2_with fail
    refine Calls.mono (writeA w5 _ _ _ _ _ _ _ D5 O5.byt B5.size (by decide)) ?_
    rw [D.put_out rfl (.inr (by omega))]
    rintro e w6 ⟨rfl, pv6, D6, F6, p6⟩
    rw [show D.wrote D.blank (51 + (1 + A)) (List.replicate S 0) = D.blank by unfold D.wrote; rw [D.put_out rfl (.inr (by omega)), if_neg (by decide)]] at D6
    have O6 := O5.fr F6 A5
    have A6 := apart_new A5 O5.lt p6
    have B6 := F6.low B5 B5.size (fun b hb => D5.ges b hb)
    clear D5 O5 A5 B5 F6 p6
    go_wp2_with fail
    refine Calls.mono (writeA w6 _ _ _ _ _ _ _ D6 O6.byt B6.size (by decide)) ?_
    rw [HP.out _ 3 rfl (by decide) (by decide)]
    rintro e w7 ⟨rfl, pv7, D7, F7, p7⟩
    have O7 := O6.fr F7 A6
    have A7 := apart_new A6 O6.lt p7
    have B7 := F7.low B6 B6.size (fun b hb => D6.ges b hb)
    obtain ⟨d7, hd7⟩ : ∃ d7, d7 = D.wrote D.blank 3 (List.replicate S 0) := ⟨_, rfl⟩
    have hf7 : d7.f = false := by rw [hd7, D.wrote_f]; rfl
    have hl7 : d7.p.length ≤ 1 := by rw [hd7]; exact D.wrote_len _ _ _
    rw [← hd7] at D7
    have HF7 := Lib.hid hf7
    clear D6 O6 A6 B6 F7 p7 hd7 hf7
    go_wp2_with fail
    refine Calls.mono (dmgA w7 _ _ _ _ _ _ _ D7 O7.byt B7.size (by omega)) ?_
    rw [D.put_out HF7.out (.inl (by omega))]
    rintro e w8 ⟨rfl, pv8, D8, F8, p8⟩
    rw [show D.hurt d7 (-(1 + A)) (List.replicate S 0) = d7 by unfold D.hurt; rw [D.put_out HF7.out (.inl (by omega)), if_neg (by decide)]] at D8
    have O8 := O7.fr F8 A7
    have A8 := apart_new A7 O7.lt p8
    have B8 := F8.low B7 B7.size (fun b hb => D7.ges b hb)
    clear D7 O7 A7 B7 F8 p8
    go_wp2_with fail
    refine Calls.mono (dmgA w8 _ _ _ _ _ _ _ D8 O8.byt B8.size (by omega)) ?_
    rw [HP.out _ 4 HF7.out (by decide) (by decide)]
    rintro e w9 ⟨rfl, pv9, D9, F9, p9⟩
    have O9 := O8.fr F9 A8
    have A9 := apart_new A8 O8.lt p9
    have B9 := F9.low B8 B8.size (fun b hb => D8.ges b hb)
    obtain ⟨d9, hd9⟩ : ∃ d9, d9 = D.hurt d7 4 (List.replicate S 0) := ⟨_, rfl⟩
    have hf9 : d9.f = false := by rw [hd9, D.hurt_f]; exact HF7.out
    have hl9 : d9.p.length ≤ 1 := by rw [hd9]; exact Nat.le_trans (D.hurt_len _ _ _) hl7
    rw [← hd9] at D9
    have HF9 := Lib.hid hf9
    clear D8 O8 A8 B8 F9 p9 hd9 hf9
    go_wp2_with fail
    refine Calls.mono (sector_any _ w9 (by omega)) ?_
    rintro e w10 ⟨v10, rfl, O10, b10⟩
    go_wp2_with fail
    refine Calls.mono (writeA w10 _ _ _ _ _ _ _ (D9.up b10) O10.byt (Nat.le_trans B9.size b10.size) (by omega)) ?_
    rintro e w11 ⟨rfl, pv11, D11, F11, p11⟩
    have O11 := (O9.up b10).fr F11 A9
    have A11 := apart_new A9 (O9.up b10).lt p11
    have B11 := F11.low (belT B9 b10) (belT B9 b10).size (fun b hb => (D9.up b10).ges b hb)
    have hl11 : (D.wrote d9 5 (secL (1 + A))).p.length ≤ 2 := Nat.le_trans (D.wrote_len _ _ _) (by omega)
    have HF11 : Hid ((D.wrote d9 5 (secL (1 + A))).f = false) := by show _ = _; rw [D.wrote_f]; exact HF9.out
    obtain ⟨d11, hd11⟩ : ∃ d11, d11 = D.wrote d9 5 (secL (1 + A)) := ⟨_, rfl⟩
    rw [← hd11] at D11 hl11 HF11
    clear D9 O9 A9 B9 F11 p11 hd11 O10 b10
    go_wp2_with fail
    refine Calls.mono (flushA w11 _ _ _ _ D11) ?_
    rw [HF11.out]
    rintro e w12 ⟨rfl, pv12, D12, F12, p12⟩
    have O12 := O11.fr F12 A11
    have A12 := apart_new A11 O11.lt p12
    have B12 := F12.low B11 B11.size (fun b hb => D11.ges b hb)
    have hl12 : (D.flushed d11).p.length ≤ 2 := by unfold D.flushed; rw [HF11.out]; exact Nat.zero_le _
    obtain ⟨d12, hd12⟩ : ∃ d12, d12 = D.flushed d11 := ⟨_, rfl⟩
    rw [← hd12] at D12 hl12
    clear D11 O11 A11 B11 F12 p12 hd12
    go_wp2_with fail
    refine Calls.mono (sector_any _ w12 (by omega)) ?_
    rintro e w13 ⟨v13, rfl, O13, b13⟩
    go_wp2_with fail
    refine Calls.mono (writeA w13 _ _ _ _ _ _ _ (D12.up b13) O13.byt (Nat.le_trans B12.size b13.size) (by omega)) ?_
    rintro e w14 ⟨rfl, pv14, D14, F14, p14⟩
    have O14 := (O12.up b13).fr F14 A12
    have A14 := apart_new A12 (O12.up b13).lt p14
    have B14 := F14.low (belT B12 b13) (belT B12 b13).size (fun b hb => (D12.up b13).ges b hb)
    clear D12 O12 A12 B12 F14 p14 O13 b13
    go_wp2_with fail
    refine Calls.mono (fail_any w14 _ _ _ _ D14) ?_
    rintro e w15 ⟨rfl, D15, F15⟩
    have O15 := O14.fr (F15.obj (pv := pv14)) A14
    have B15 := (F15.obj (pv := pv14)).low B14 B14.size (fun b hb => D14.ges b hb)
    have A15 := apart_none A14
    clear D14 O14 A14 B14 F15
    go_wp2_with fail
    refine Calls.mono (readA w15 _ _ _ _ _ D15) ?_
    rw [D.may_dead rfl]
    rintro e w16 ⟨v16, rfl, _, b16⟩
    go_wp2_with fail
    refine Calls.mono (readA w16 _ _ _ _ _ (D15.up b16)) ?_
    rw [D.may_dead rfl]
    rintro e w17 ⟨v17, rfl, _, b17⟩
    have D17 := (D15.up b16).up b17
    have O17 := (O15.up b16).up b17
    have B17 := belT (belT B15 b16) b17
    clear D15 O15 B15 b16 b17
    go_wp2_with fail
    refine Calls.mono (crash_any _ _ _ _ _ _ [true] (D17.up (belA1 (belR _))) (Bools.lit1 w17 true _) (fun _ e => by have := D17.lt; have h9 : w17.heap.size = W.heap.size := Option.some.inj e; omega)) ?_
    rintro e w18 ⟨rfl, D18, F18⟩
    have O18 := (O17.up (belA1 (belR _))).fr (F18.obj (pv := .slice none 0 0)) A15
    have B18 := (F18.obj (pv := .slice none 0 0)).low (belA1 B17) (belA1 B17).size (fun b hb => D17.ges b hb)
    have HF18 : Hid ((D.crash D.fail [true]).f = true) := rfl
    have HP18 : Hid ((D.crash D.fail [true]).p = []) := rfl
    obtain ⟨d18, hd18⟩ : ∃ d18, d18 = D.crash D.fail [true] := ⟨_, rfl⟩
    rw [← hd18] at D18 HF18 HP18
    clear D17 O17 B17 F18 hd18
    go_wp2_with fail
    refine Calls.mono (readA w18 _ _ _ _ _ D18) ?_
    rw [D.may_dead HF18.out]
    rintro e w19 ⟨v19, rfl, _, b19⟩
    have D19 := D18.up b19
    have O19 := O18.up b19
    have B19 := belT B18 b19
    clear D18 O18 B18 b19
    go_wp2_with fail
    refine Calls.mono (failed_any _ _ _ _ _ D19) ?_
    rw [HF18.out]
    rintro e w20 ⟨rfl, rfl⟩
    go_wp2_with fail
    refine Calls.mono (writeA _ _ _ _ _ _ _ [] D19 (Byt.nil _) B19.size (by rw [HP18.out]; decide)) ?_
    rw [D.put_dead HF18.out]
    rintro e w20 ⟨rfl, pv20, D20, F20, p20⟩
    rw [show D.wrote d18 (-(1 + A)) [] = d18 by unfold D.wrote; rw [D.put_dead HF18.out, if_neg (by decide)]] at D20
    have O20 := O19.fr F20 A15
    have A20 := apart_new A15 O19.lt p20
    have B20 := F20.low B19 B19.size (fun b hb => D19.ges b hb)
    go_wp2_with fail
    refine Calls.mono (flushA w20 _ _ _ _ D20) ?_
    rw [HF18.out]
    rintro e w21 ⟨rfl, pv21, D21, F21, p21⟩
    rw [show D.flushed d18 = d18 by unfold D.flushed; rw [HF18.out]; rfl] at D21
    have O21 := O20.fr F21 A20
    have A21 := apart_new A20 O20.lt p21
    have B21 := F21.low B20 B20.size (fun b hb => D20.ges b hb)
    go_wp2_with fail
    refine Calls.mono (dmgA w21 _ _ _ _ _ _ _ D21 O21.byt B21.size (by rw [HP18.out]; decide)) ?_
    rw [D.put_dead HF18.out]
    rintro e w22 ⟨rfl, pv22, D22, F22, p22⟩
    rw [show D.hurt d18 1 (List.replicate S 0) = d18 by unfold D.hurt; rw [D.put_dead HF18.out, if_neg (by decide)]] at D22
    have B22 := F22.low B21 B21.size (fun b hb => D21.ges b hb)
    go_wp2_with fail
    refine Calls.mono (pending_any _ _ _ _ _ D22) ?_
    rw [HP18.out]
    rintro e w23 ⟨rfl, rfl⟩
    go_wp2_with fail
    refine Calls.mono (wakes_any _) ?_
    rintro e w24 ⟨rfl, b24⟩
    go_wp2
    go_ret
    exact ⟨rfl, belT B22 b24⟩
end Go.Proofs.Ytggljcdkiaggeaa
