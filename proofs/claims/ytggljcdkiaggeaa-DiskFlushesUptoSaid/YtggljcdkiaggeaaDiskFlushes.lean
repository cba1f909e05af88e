/- The law DiskFlushes: behind a flush nothing is pending, and a crash changes nothing; what is written behind it is pending again. -/
import Derived.Test.YtggljcdkiaggeaaDiskOrder
namespace Go.Proofs.Ytggljcdkiaggeaa
open Go.RowKit
set_option linter.unusedVariables false
set_option linter.unusedSimpArgs false
set_option maxRecDepth 100000
set_option maxHeartbeats 2000000
theorem apart_disk {w : World} {base g g2 : Nat} {pv pv' pv2 : Value} {d2 : D.Dk} (h2 : IsDisk w base g2 pv2 d2) (hold : ∀ b, ofD g2 pv2 b → ¬ ofD g pv b) (p : ∀ b, pv'.ownBlock = some b → pv.ownBlock = some b ∨ w.heap.size ≤ b) : ∀ b, ofD g2 pv2 b → ¬ ofD g pv' b := by
  intro b hb hof
  rcases hof with rfl | h
  · exact hold _ hb (.inl rfl)
  · rcases p b h with h1 | h1
    · exact hold b hb (.inr h1)
    · have := h2.lts b hb
      omega
theorem Bools.nil (w : World) : Bools w (.slice none 0 0) [] := ⟨none, 0, rfl, Nat.le_refl _, by decide, (fun _ => rfl), .inl rfl⟩
attribute [local irreducible] Go.Calls Byt Own Parts Ints Bools
theorem diskFlushes_law (W : World) (av : Value) (ats : List Int) (ha : Ints W av ats) (hal : ats.length ≤ 1048576) (cut : Int) (hcut : -9223372036854775808 ≤ cut ∧ cut ≤ 9223372036854775807) (kv : Value) (ks : List Bool) (hk : Bools W kv ks) :
    Calls Try.prog 6 #[av, .int .i64 cut, kv] W fun e W' => e = .returned (.bool true) ∧ Below W.heap.size W W' := by
  have HAS := Lib.hid ha
  have HKS := Lib.hid hk
  obtain ⟨aoa, capa, rfl, hr1, hr2⟩ := Ints.shape ha
  obtain ⟨aok, capk, rfl, hr3, hr4⟩ := Bools.shape hk
  clear ha hk
  go_enter Try.func6, Try.ntmps6
  go_wp2_with fail
  refine Calls.mono (newI W) ?_
  rintro e w1 ⟨rfl, D1, b1⟩
  go_wp2_with fail
  refine Calls.mono (within_any cut _ _ (by omega) hcut.1 hcut.2) ?_
  rintro e w2 ⟨rfl, rfl⟩
  have hC0 := withinI_ge cut ((ats.length : Int) + 1)
  have hC1 := withinI_lt cut ((ats.length : Int) + 1) (by omega)
  obtain ⟨C, hC⟩ : ∃ C, C = withinI cut ((ats.length : Int) + 1) := ⟨_, rfl⟩
  rw [← hC] at hC0 hC1 ⊢
  clear hC
  obtain ⟨c, rfl⟩ := Int.eq_ofNat_of_zero_le hC0
  have hc : c ≤ ats.length := by omega
  have hcI : (c : Int) ≤ (capa : Int) := by omega
  have HR0 : Hid (∃ pv d, IsDisk w1 W.heap.size W.heap.size pv d ∧ d.f = false ∧ d.p.length = 0 ∧ Below W.heap.size W w1) := ⟨_, _, D1, rfl, rfl, b1⟩
  clear D1 b1
  go_wp2_with fail
  go_loopw [35] (fun i w' => ∃ k : Nat, k ≤ c ∧ i = .int .i64 k ∧ Hid (∃ pv d, IsDisk w' W.heap.size W.heap.size pv d ∧ d.f = false ∧ d.p.length = k ∧ Below W.heap.size W w')) (fun i _ => c - (intOf i).toNat)
  case atStart => exact ⟨0, Nat.zero_le _, rfl, HR0⟩
  case round =>
    clear HR0
    obtain ⟨k, hk, rfl, HR⟩ := hrel
    by_cases hlt : k < c
    · obtain ⟨pv, d, D1, hf, hpl, B1⟩ := HR.out
      obtain ⟨bA, offA, z, rfl, hz, hz1, hz2⟩ := Ints.get (Ints.up HAS.out B1) (show k < ats.length by omega)
      have HF := Lib.hid hf
      have HPL := Lib.hid hpl
      clear hf hpl
      go_wp2_with fail
      refine Calls.mono (within_any z 52 _ (by decide) hz1 hz2) ?_
      rintro e w2 ⟨rfl, rfl⟩
      have hA0 := withinI_ge z 52
      have hA1 := withinI_lt z 52 (by decide)
      obtain ⟨A, hA⟩ : ∃ A, A = withinI z 52 := ⟨_, rfl⟩
      rw [← hA] at hA0 hA1 ⊢
      clear hA
      go_wp2_with fail
      refine Calls.mono (sector_any _ wr (by omega)) ?_
      rintro e w3 ⟨v3, rfl, O3, b3⟩
      go_wp2_with fail
      refine Calls.mono (writeI w3 _ _ _ _ A v3 _ (D1.up b3) O3.byt HF.out hA0 hA1 (secL_len _) (Nat.le_trans B1.size b3.size) (by rw [HPL.out]; omega)) ?_
      rintro e w4 ⟨rfl, pv4, D4, F4, p4⟩
      have B4 := F4.low (belT B1 b3) (belT B1 b3).size (fun b hb => (D1.up b3).ges b hb)
      go_wp2_with fail
      go_roundw
      case rel => exact ⟨k + 1, by omega, by go_num, Lib.hid ⟨pv4, _, D4, HF.out, by simp [D.write, HPL.out], B4⟩⟩
      case measure => simp [intOf]; omega
    · obtain ⟨pv, d, D1, hf, hpl, B1⟩ := HR.out
      have hke : k = c := by omega
      have HF := Lib.hid hf
      have hb : ((d.p.length : Int) != (c : Int)) = false := by rw [hpl, hke]; simp
      clear hf hpl hke
      go_wp2_with fail
      refine Calls.mono (pending_any _ _ _ _ _ D1) ?_
      rintro e w2 ⟨rfl, rfl⟩
      go_wp2_with fail
      refine Calls.mono (flush_any _ _ _ _ _ D1 HF.out) ?_
      rintro e w2 ⟨rfl, D2, F2⟩
      have B2 := (F2.obj (pv := pv)).low B1 B1.size (fun b hb => D1.ges b hb)
      obtain ⟨d2, hd2⟩ : ∃ d2, d2 = D.flush d := ⟨_, rfl⟩
      have HF2 : Hid (d2.f = false) := by rw [hd2]; exact HF.out
      have HP2 : Hid (d2.p = []) := by rw [hd2]; rfl
      rw [← hd2] at D2
      clear hd2 F2 D1 B1 hb
      go_wp2_with fail
      refine Calls.mono (pending_any _ _ _ _ _ D2) ?_
      rw [HP2.out]
      rintro e w3 ⟨rfl, rfl⟩
      go_wp2_with fail
      refine Calls.mono (dclone_any _ _ _ _ _ D2 (by rw [HP2.out]; decide)) ?_
      rintro e w3 ⟨pv3, rfl, E3, b3⟩
      have D3 := D2.up b3
      have B3 := belT B2 b3
      have A3 : ∀ b, ofD w2.heap.size pv3 b → ¬ ofD W.heap.size (.slice none 0 0) b := fun b hb ho => by
        have h1 := E3.ges b hb
        have h2 := D2.lts b ho
        omega
      go_wp2_with fail
      refine Calls.mono (crash_any w3 _ _ _ _ _ ks D3 (Bools.up HKS.out B3) (fun hne e => by have := Bools.lt HKS.out hne _ e; omega)) ?_
      rw [D.crash_idle HP2.out ks HP2.out]
      rintro e w4 ⟨rfl, D4, F4⟩
      have E4 := E3.fr (F4.obj (pv := .slice none 0 0)) A3
      have B4 := (F4.obj (pv := .slice none 0 0)).low B3 B3.size (fun b hb => D3.ges b hb)
      have HS4 : Hid (∃ pv', IsDisk w4 W.heap.size W.heap.size pv' d2 ∧ IsDisk w4 w2.heap.size w2.heap.size pv3 d2 ∧ (∀ b, ofD w2.heap.size pv3 b → ¬ ofD W.heap.size pv' b) ∧ Below W.heap.size W w4) := ⟨_, D4, E4, A3, B4⟩
      clear D2 D3 D4 E3 E4 F4 B2 B3 B4 A3 b3
      go_wp2_with fail
      go_loopw [11] (fun i w' => ∃ j : Nat, j ≤ 52 ∧ i = .int .i64 j ∧ Hid (∃ pv', IsDisk w' W.heap.size W.heap.size pv' d2 ∧ IsDisk w' w2.heap.size w2.heap.size pv3 d2 ∧ (∀ b, ofD w2.heap.size pv3 b → ¬ ofD W.heap.size pv' b) ∧ Below W.heap.size W w')) (fun i _ => 52 - (intOf i).toNat)
      case atStart => exact ⟨0, by omega, rfl, HS4⟩
      case round =>
        clear HS4
        obtain ⟨j, hj, rfl, HS⟩ := hrel
        obtain ⟨pv', D5, E5, A5, B5⟩ := HS.out
        by_cases hl5 : j < 52
        · go_wp2_with fail
          refine Calls.mono (readI _ _ _ _ _ (j : Int) D5 HF2.out (by omega) (by omega)) ?_
          rintro e w6 ⟨v6, rfl, O6, b6⟩
          go_wp2_with fail
          refine Calls.mono (readI _ _ _ _ _ (j : Int) (E5.up b6) HF2.out (by omega) (by omega)) ?_
          rintro e w7 ⟨v7, rfl, O7, b7⟩
          go_wp2_with fail
          refine Calls.mono (same_any _ _ _ _ _ (O6.up b7).byt O7.byt) ?_
          rw [decide_eq_true rfl]
          rintro e w8 ⟨rfl, d8⟩
          have c8 := belT (belT b6 b7) (d8.below _)
          go_wp2_with fail
          go_roundw
          case rel => exact ⟨j + 1, by omega, by go_num, Lib.hid ⟨pv', D5.up c8, E5.up c8, A5, belT B5 c8⟩⟩
          case measure => simp [intOf]; omega
        · have HV0 : Hid (∃ pv' d3, IsDisk wr W.heap.size W.heap.size pv' d3 ∧ d3.l = d2.l ∧ d3.f = false ∧ d3.p.length = 0 ∧ IsDisk wr w2.heap.size w2.heap.size pv3 d2 ∧ (∀ b, ofD w2.heap.size pv3 b → ¬ ofD W.heap.size pv' b) ∧ Below W.heap.size W wr) := ⟨pv', d2, D5, rfl, HF2.out, by rw [HP2.out]; rfl, E5, A5, B5⟩
          by_cases hcl : c < ats.length
          · obtain ⟨bA, offA, z0, rfl, _⟩ := Ints.get (Ints.up HAS.out B5) hcl
            have hcn : ¬ capa = c := by omega
            clear D5 E5 A5 B5
            go_wp2_with fail
            go_loopw [94] (fun i w' => ∃ k : Nat, k ≤ ats.length - c ∧ i = .int .i64 k ∧ Hid (∃ pv' d3, IsDisk w' W.heap.size W.heap.size pv' d3 ∧ d3.l = d2.l ∧ d3.f = false ∧ d3.p.length = k ∧ IsDisk w' w2.heap.size w2.heap.size pv3 d2 ∧ (∀ b, ofD w2.heap.size pv3 b → ¬ ofD W.heap.size pv' b) ∧ Below W.heap.size W w')) (fun i _ => (ats.length - c) - (intOf i).toNat)
            case atStart => exact ⟨0, Nat.zero_le _, rfl, HV0⟩
            case round =>
              clear HV0
              obtain ⟨k, hk, rfl, HT⟩ := hrel
              by_cases hlt3 : k < ats.length - c
              · obtain ⟨pv', d3, D5, hl3, hf3, hpl3, E5, A5, B5⟩ := HT.out
                obtain ⟨bA2, offA2, z, hao, hz, hz1, hz2⟩ := Ints.get (Ints.up HAS.out B5) (show c + k < ats.length by omega)
                cases hao
                rw [← Nat.add_assoc] at hz
                have HF3 := Lib.hid hf3
                have HPL := Lib.hid hpl3
                have HL3 := Lib.hid hl3
                clear hf3 hpl3 hl3
                go_wp2_with fail
                refine Calls.mono (within_any z 52 _ (by decide) hz1 hz2) ?_
                rintro e w6 ⟨rfl, rfl⟩
                have hA0 := withinI_ge z 52
                have hA1 := withinI_lt z 52 (by decide)
                obtain ⟨A, hA⟩ : ∃ A, A = withinI z 52 := ⟨_, rfl⟩
                rw [← hA] at hA0 hA1 ⊢
                clear hA
                go_wp2_with fail
                refine Calls.mono (sector_any _ wr (by omega)) ?_
                rintro e w6 ⟨v6, rfl, O6, b6⟩
                go_wp2_with fail
                refine Calls.mono (writeI w6 _ _ _ _ A v6 _ (D5.up b6) O6.byt HF3.out hA0 hA1 (secL_len _) (Nat.le_trans B5.size b6.size) (by rw [HPL.out]; omega)) ?_
                rintro e w7 ⟨rfl, pv7, D7, F7, p7⟩
                have B7 := F7.low (belT B5 b6) (belT B5 b6).size (fun b hb => (D5.up b6).ges b hb)
                have E7 := (E5.up b6).fr F7 A5
                have A7 := apart_disk (E5.up b6) A5 p7
                have HPL7 : Hid ((D.write d3 A.toNat (secL ((k : Int) + 50))).p.length = k + 1) := by show _ = _; simp [D.write, HPL.out]
                go_wp2_with fail
                refine Calls.mono (pending_any _ _ _ _ _ D7) ?_
                rw [HPL7.out]
                rintro e w8 ⟨rfl, rfl⟩
                go_wp2_with fail
                go_roundw
                case rel => exact ⟨k + 1, by omega, by go_num, Lib.hid ⟨pv7, _, D7, HL3.out, HF3.out, HPL7.out, E7, A7, B7⟩⟩
                case measure => simp [intOf]; omega
              · skip
                obtain ⟨pv4, d4, D7, hl4, hf4, hpl4, E7, A7, B7⟩ := HT.out
                have HF4 := Lib.hid hf4
                have HEQ : Hid ({ d4 with p := [] } = d2) := by
                  show _ = _
                  obtain ⟨l2, p2, f2⟩ := d2
                  obtain ⟨l4, p4, f4⟩ := d4
                  have e1 := HP2.out
                  have e2 := HF2.out
                  simp at hl4 hf4 e1 e2
                  rw [hl4, hf4, e1, e2]
                clear hl4 hf4 hpl4
                go_wp2_with fail
                refine Calls.mono (crash_any _ _ _ _ _ _ [] D7 (Bools.nil _) (fun h => absurd rfl h)) ?_
                rw [D.crash_none, HEQ.out]
                rintro e w9 ⟨rfl, D9, F9⟩
                have E9 := E7.fr (F9.obj (pv := pv4)) A7
                have B9 := (F9.obj (pv := pv4)).low B7 B7.size (fun b hb => D7.ges b hb)
                have HU : Hid (IsDisk w9 W.heap.size W.heap.size (.slice none 0 0) d2 ∧ IsDisk w9 w2.heap.size w2.heap.size pv3 d2 ∧ Below W.heap.size W w9) := ⟨D9, E9, B9⟩
                clear D7 E7 A7 B7 D9 E9 B9 F9
                go_wp2_with fail
                go_loopw [18] (fun i w' => ∃ j : Nat, j ≤ 52 ∧ i = .int .i64 j ∧ Hid (IsDisk w' W.heap.size W.heap.size (.slice none 0 0) d2 ∧ IsDisk w' w2.heap.size w2.heap.size pv3 d2 ∧ Below W.heap.size W w')) (fun i _ => 52 - (intOf i).toNat)
                case atStart => exact ⟨0, by omega, rfl, HU⟩
                case round =>
                  clear HU
                  obtain ⟨j, hj, rfl, HS⟩ := hrel
                  obtain ⟨D5, E5, B5⟩ := HS.out
                  by_cases hl5 : j < 52
                  · go_wp2_with fail
                    refine Calls.mono (readI _ _ _ _ _ (j : Int) D5 HF2.out (by omega) (by omega)) ?_
                    rintro e w6 ⟨v6, rfl, O6, b6⟩
                    go_wp2_with fail
                    refine Calls.mono (readI _ _ _ _ _ (j : Int) (E5.up b6) HF2.out (by omega) (by omega)) ?_
                    rintro e w7 ⟨v7, rfl, O7, b7⟩
                    go_wp2_with fail
                    refine Calls.mono (same_any _ _ _ _ _ (O6.up b7).byt O7.byt) ?_
                    rw [decide_eq_true rfl]
                    rintro e w8 ⟨rfl, d8⟩
                    have c8 := belT (belT b6 b7) (d8.below _)
                    go_wp2_with fail
                    go_roundw
                    case rel => exact ⟨j + 1, by omega, by go_num, Lib.hid ⟨D5.up c8, E5.up c8, belT B5 c8⟩⟩
                    case measure => simp [intOf]; omega
                  · go_wp2_with fail
                    refine Calls.mono (wakes_any _) ?_
                    rintro e w7 ⟨rfl, b7⟩
                    go_wp2
                    go_ret
                    exact ⟨rfl, belT B5 b7⟩
          · have hcn : c = ats.length := by omega
            clear D5 E5 A5 B5 hcl
            go_wp2_with fail
            all_goals
              go_loopw [94] (fun i w' => ∃ k : Nat, k ≤ ats.length - c ∧ i = .int .i64 k ∧ Hid (∃ pv' d3, IsDisk w' W.heap.size W.heap.size pv' d3 ∧ d3.l = d2.l ∧ d3.f = false ∧ d3.p.length = k ∧ IsDisk w' w2.heap.size w2.heap.size pv3 d2 ∧ (∀ b, ofD w2.heap.size pv3 b → ¬ ofD W.heap.size pv' b) ∧ Below W.heap.size W w')) (fun i _ => (ats.length - c) - (intOf i).toNat)
              case atStart => exact ⟨0, Nat.zero_le _, rfl, HV0⟩
              case round =>
                clear HV0
                obtain ⟨k, hk, rfl, HT⟩ := hrel
                by_cases hlt3 : k < ats.length - c
                · exact absurd hlt3 (by omega)
                · skip
                  obtain ⟨pv4, d4, D7, hl4, hf4, hpl4, E7, A7, B7⟩ := HT.out
                  have HF4 := Lib.hid hf4
                  have HEQ : Hid ({ d4 with p := [] } = d2) := by
                    show _ = _
                    obtain ⟨l2, p2, f2⟩ := d2
                    obtain ⟨l4, p4, f4⟩ := d4
                    have e1 := HP2.out
                    have e2 := HF2.out
                    simp at hl4 hf4 e1 e2
                    rw [hl4, hf4, e1, e2]
                  clear hl4 hf4 hpl4
                  go_wp2_with fail
                  refine Calls.mono (crash_any _ _ _ _ _ _ [] D7 (Bools.nil _) (fun h => absurd rfl h)) ?_
                  rw [D.crash_none, HEQ.out]
                  rintro e w9 ⟨rfl, D9, F9⟩
                  have E9 := E7.fr (F9.obj (pv := pv4)) A7
                  have B9 := (F9.obj (pv := pv4)).low B7 B7.size (fun b hb => D7.ges b hb)
                  have HU : Hid (IsDisk w9 W.heap.size W.heap.size (.slice none 0 0) d2 ∧ IsDisk w9 w2.heap.size w2.heap.size pv3 d2 ∧ Below W.heap.size W w9) := ⟨D9, E9, B9⟩
                  clear D7 E7 A7 B7 D9 E9 B9 F9
                  go_wp2_with fail
                  go_loopw [18] (fun i w' => ∃ j : Nat, j ≤ 52 ∧ i = .int .i64 j ∧ Hid (IsDisk w' W.heap.size W.heap.size (.slice none 0 0) d2 ∧ IsDisk w' w2.heap.size w2.heap.size pv3 d2 ∧ Below W.heap.size W w')) (fun i _ => 52 - (intOf i).toNat)
                  case atStart => exact ⟨0, by omega, rfl, HU⟩
                  case round =>
                    clear HU
                    obtain ⟨j, hj, rfl, HS⟩ := hrel
                    obtain ⟨D5, E5, B5⟩ := HS.out
                    by_cases hl5 : j < 52
                    · go_wp2_with fail
                      refine Calls.mono (readI _ _ _ _ _ (j : Int) D5 HF2.out (by omega) (by omega)) ?_
                      rintro e w6 ⟨v6, rfl, O6, b6⟩
                      go_wp2_with fail
                      refine Calls.mono (readI _ _ _ _ _ (j : Int) (E5.up b6) HF2.out (by omega) (by omega)) ?_
                      rintro e w7 ⟨v7, rfl, O7, b7⟩
                      go_wp2_with fail
                      refine Calls.mono (same_any _ _ _ _ _ (O6.up b7).byt O7.byt) ?_
                      rw [decide_eq_true rfl]
                      rintro e w8 ⟨rfl, d8⟩
                      have c8 := belT (belT b6 b7) (d8.below _)
                      go_wp2_with fail
                      go_roundw
                      case rel => exact ⟨j + 1, by omega, by go_num, Lib.hid ⟨D5.up c8, E5.up c8, belT B5 c8⟩⟩
                      case measure => simp [intOf]; omega
                    · go_wp2_with fail
                      refine Calls.mono (wakes_any _) ?_
                      rintro e w7 ⟨rfl, b7⟩
                      go_wp2
                      go_ret
                      exact ⟨rfl, belT B5 b7⟩
end Go.Proofs.Ytggljcdkiaggeaa
