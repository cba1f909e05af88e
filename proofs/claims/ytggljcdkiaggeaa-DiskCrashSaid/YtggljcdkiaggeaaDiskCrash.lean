/- The law DiskCrash: of writes to one sector that are pending the last one that is kept stays. -/
import Derived.Test.YtggljcdkiaggeaaDiskL
namespace Go.Proofs.Ytggljcdkiaggeaa
open Go.RowKit
set_option linter.unusedVariables false
set_option linter.unusedSimpArgs false
set_option maxRecDepth 100000
set_option maxHeartbeats 2000000
theorem wrapB (x : Int) : -9223372036854775808 ≤ wrap64 x ∧ wrap64 x ≤ 9223372036854775807 := by unfold wrap64; omega
theorem dr_up {a w w' : World} (h : Below a.heap.size a w) (d : Dr w w') : Below a.heap.size a w' := h.trans (d.below _)
attribute [local irreducible] Go.Calls Byt Own Parts Bools
theorem diskCrash_law (W : World) (n : Int) (hn : -9223372036854775808 ≤ n ∧ n ≤ 9223372036854775807) (fl : Int) (hfl : -9223372036854775808 ≤ fl ∧ fl ≤ 9223372036854775807) (kv : Value) (ks : List Bool) (hk : Bools W kv ks) (at' : Int) (hat : -9223372036854775808 ≤ at' ∧ at' ≤ 9223372036854775807) :
    Calls Try.prog 5 #[.int .i64 n, .int .i64 fl, kv, .int .i64 at'] W fun e W' => e = .returned (.bool true) ∧ Below W.heap.size W W' := by
  have HKS := Lib.hid hk
  obtain ⟨aok, capk, rfl, hr1, hr2⟩ := Bools.shape hk
  clear hk
  go_enter Try.func5, Try.ntmps5
  go_wp2_with fail
  refine Calls.mono (newI W) ?_
  rintro e w1 ⟨rfl, D1, b1⟩
  go_wp2_with fail
  refine Calls.mono (within_any at' 52 _ (by decide) hat.1 hat.2) ?_
  rintro e w2 ⟨rfl, rfl⟩
  go_wp2_with fail
  refine Calls.mono (within_any n 9 _ (by decide) hn.1 hn.2) ?_
  rintro e w2 ⟨rfl, rfl⟩
  have hA0 := withinI_ge at' 52
  have hA1 := withinI_lt at' 52 (by decide)
  have hN0 := withinI_ge n 9
  have hN1 := withinI_lt n 9 (by decide)
  obtain ⟨A, hA⟩ : ∃ A, A = withinI at' 52 := ⟨_, rfl⟩
  obtain ⟨N, hN⟩ : ∃ N, N = withinI n 9 := ⟨_, rfl⟩
  rw [← hA] at hA0 hA1 ⊢
  rw [← hN] at hN0 hN1 ⊢
  clear hA hN
  go_wp2_with fail
  refine Calls.mono (sector_any fl _ hfl) ?_
  rintro e w3 ⟨v3, rfl, O3, b3⟩
  go_wp2_with fail
  refine Calls.mono (writeI w3 _ _ _ _ A v3 _ (D1.up b3) O3.byt rfl hA0 hA1 (secL_len fl) (Nat.le_trans b1.size b3.size) (by decide)) ?_
  rintro e w4 ⟨rfl, pv4, D4, F4, p4⟩
  go_wp2_with fail
  refine Calls.mono (flush_any _ _ _ _ _ D4 rfl) ?_
  rintro e w5 ⟨rfl, D5, F5⟩
  have hG : W.heap.size < w1.heap.size := D1.lt
  have hAt : A.toNat < 52 := by omega
  have A3 := apart_made D1 O3 (Nat.le_refl _)
  have O4 := O3.fr F4 A3
  have O5 := own_mono (O4.fr (F5.obj (pv := .slice none 0 0)) A3) b1.size
  have B3 := belT b1 b3
  have B4 := F4.low (B := W.heap.size) B3 B3.size (fun b hb => (D1.up b3).ges b hb)
  have B5 := (F5.obj (pv := .slice none 0 0)).low B4 B4.size (fun b hb => D5.ges b hb)
  have hlk : D.look (D.crash (D.flush (D.write D.blank A.toNat (secL fl))) ks) A.toNat = secL fl := by
    rw [D.crash_idle rfl ks rfl, D.look_flush D4.ok hAt, D.look_write_same]
  obtain ⟨d0, hd0⟩ : ∃ d0, d0 = D.flush (D.write D.blank A.toNat (secL fl)) := ⟨_, rfl⟩
  have hf0 : d0.f = false := by rw [hd0]; rfl
  have hp0 : d0.p = [] := by rw [hd0]; rfl
  rw [← hd0] at hlk D5
  clear hd0 D1 D4 F4 F5 O3 O4 B3 B4 b1 b3 p4
  have HR0 : Hid (∃ pv d lw, IsDisk w5 W.heap.size W.heap.size pv d ∧ d.f = false ∧ d.p.length = 0 ∧ Own w5 W.heap.size v3 lw ∧ D.look (D.crash d ks) A.toNat = lw ∧ (∀ b, v3.ownBlock = some b → ¬ ofD W.heap.size pv b) ∧ Below W.heap.size W w5) :=
    ⟨_, d0, _, D5, hf0, by rw [hp0]; rfl, O5, hlk, A3, B5⟩
  clear D5 hf0 hp0 O5 hlk A3 B5
  go_wp2_with fail
  go_loopw [11, 12] (fun wv i w' => ∃ k : Nat, (k : Int) ≤ N ∧ i = .int .i64 k ∧ Hid (∃ pv d lw, IsDisk w' W.heap.size W.heap.size pv d ∧ d.f = false ∧ d.p.length = k ∧ Own w' W.heap.size wv lw ∧ D.look (D.crash d ks) A.toNat = lw ∧ (∀ b, wv.ownBlock = some b → ¬ ofD W.heap.size pv b) ∧ Below W.heap.size W w')) (fun _ i _ => 9 - (intOf i).toNat)
  case atStart => exact ⟨0, by omega, rfl, HR0⟩
  case round =>
    clear HR0
    obtain ⟨k, hkN, rfl, HR⟩ := hrel
    by_cases hlt : (k : Int) < N
    · go_wp2_with fail
      refine Calls.mono (sector_any _ wr (wrapB _)) ?_
      obtain ⟨x, hx⟩ : ∃ x, x = secL (wrap64 (wrap64 (fl + (k : Int)) + 1)) := ⟨_, rfl⟩
      have hx1 : x.length = 32 := by rw [hx]; exact secL_len _
      have hx2 : ∀ y ∈ x, y < 256 := by rw [hx]; exact secL_byte _
      rw [← hx]
      have HX1 := Lib.hid hx1
      have HX2 := Lib.hid hx2
      clear hx hx1 hx2
      rintro e w2 ⟨v2, rfl, O2, b2⟩
      obtain ⟨pv, d, lw, D1, hf, hpl, O1, hlk, A1, B1⟩ := HR.out
      have HF := Lib.hid hf
      have HPL := Lib.hid hpl
      have HLK := Lib.hid hlk
      clear hf hpl hlk
      go_wp2_with fail
      refine Calls.mono (writeI w2 _ _ _ _ A v2 _ (D1.up b2) O2.byt HF.out hA0 hA1 HX1.out (Nat.le_trans B1.size b2.size) (by rw [HPL.out]; omega)) ?_
      rintro e w3 ⟨rfl, pv2, D3, F3, p3⟩
      have A2 := apart_made D1 O2 (Nat.le_refl _)
      have O3 := O2.fr F3 A2
      have A2b := apart_new A2 O2.lt p3
      have O1b := (O1.up b2).fr F3 A1
      have A1b := apart_new A1 (O1.up b2).lt p3
      have B3 := F3.low (belT B1 b2) (belT B1 b2).size (fun b hb => (D1.up b2).ges b hb)
      go_wp2_with fail
      refine Calls.mono (readI w3 _ _ _ _ A D3 HF.out hA0 hA1) ?_
      rw [D.look_write_same]
      rintro e w4 ⟨v4, rfl, O4, b4⟩
      go_wp2_with fail
      refine Calls.mono (same_any _ _ x x _ O4.byt (O3.up b4).byt) ?_
      rw [decide_eq_true rfl]
      rintro e w5 ⟨rfl, d5⟩
      have c5 := belT b4 (d5.below _)
      have D5 := D3.up c5
      have O5b := own_mono (O3.up c5) (show W.heap.size ≤ wr.heap.size from B1.size)
      have A5 := A2b
      have O1c := O1b.up c5
      have A1c := A1b
      have B5 := belT B3 c5
      have HCW := Lib.hid (D.look_crash_write (d := d) D1.ok ks (a := A.toNat) (by omega) HX1.out HX2.out)
      have hf := HF.out
      have hpl := HPL.out
      have hlk := HLK.out
      have hK3 := Bools.up (HKS.out) B5
      clear hf hpl hlk
      by_cases hkl : k < ks.length
      · obtain ⟨bk, offk, xk, rfl, hxk, hxg⟩ := Bools.get hK3 hkl
        have HXG := Lib.hid hxg
        clear hK3 hxg
        cases xk with
        | true =>
          go_wp2_with fail
          go_roundw
          case rel =>
            refine ⟨k + 1, by omega, by go_num, Lib.hid ⟨pv2, _, _, D5, HF.out, by simp [D.write, HPL.out], O5b, ?_, A5, B5⟩⟩
            rw [HCW.out, if_pos (by rw [HPL.out]; exact HXG.out.out)]
          case measure => simp [intOf]; omega
        | false =>
          go_wp2_with fail
          go_roundw
          case rel =>
            refine ⟨k + 1, by omega, by go_num, Lib.hid ⟨pv2, _, _, D5, HF.out, by simp [D.write, HPL.out], O1c, ?_, A1c, B5⟩⟩
            rw [HCW.out, if_neg (by rw [HPL.out, HXG.out.out]; simp)]
            exact HLK.out
          case measure => simp [intOf]; omega
      · have hkn : Hid (ks[k]? ≠ some true) := by show _ ≠ _; rw [List.getElem?_eq_none (by omega)]; simp
        clear hK3
        go_wp2_with fail
        go_roundw
        case rel =>
          refine ⟨k + 1, by omega, by go_num, Lib.hid ⟨pv2, _, _, D5, HF.out, by simp [D.write, HPL.out], O1c, ?_, A1c, B5⟩⟩
          rw [HCW.out, if_neg (by rw [HPL.out]; exact hkn.out)]
          exact HLK.out
        case measure => simp [intOf]; omega
    · have hke : (k : Int) = N := by omega
      obtain ⟨pv, d, lw, D1, hf, hpl, O1, hlk, A1, B1⟩ := HR.out
      have HF := Lib.hid hf
      have HPL := Lib.hid hpl
      have HLK := Lib.hid hlk
      have HKE := Lib.hid hke
      have hb : ((d.p.length : Int) != N) = false := by rw [hpl, hke]; simp
      clear hf hpl hlk hke
      go_wp2_with fail
      refine Calls.mono (pending_any _ _ _ _ _ D1) ?_
      rintro e w2 ⟨rfl, rfl⟩
      go_wp2_with fail
      refine Calls.mono (crash_any wr _ _ _ _ _ ks D1 (Bools.up HKS.out B1) (fun hne e => by have := Bools.lt HKS.out hne _ e; omega)) ?_
      rintro e w3 ⟨rfl, D3, F3⟩
      have O3 := O1.fr (F3.obj (pv := pv)) A1
      have B3 := (F3.obj (pv := pv)).low B1 B1.size (fun b hb => D1.ges b hb)
      go_wp2_with fail
      refine Calls.mono (readI w3 _ _ _ _ A D3 HF.out hA0 hA1) ?_
      rw [HLK.out]
      rintro e w4 ⟨v4, rfl, O4, b4⟩
      go_wp2_with fail
      refine Calls.mono (same_any _ _ lw lw _ O4.byt (O3.up b4).byt) ?_
      rw [decide_eq_true rfl]
      rintro e w5 ⟨rfl, d5⟩
      have c5 := belT b4 (d5.below _)
      go_wp2_with fail
      refine Calls.mono (pending_any _ _ _ _ _ (D3.up c5)) ?_
      rintro e w6 ⟨rfl, rfl⟩
      go_wp2_with fail
      refine Calls.mono (wakes_any _) ?_
      rintro e w7 ⟨rfl, b7⟩
      go_wp2
      go_ret
      exact ⟨rfl, belT (belT B3 c5) b7⟩
end Go.Proofs.Ytggljcdkiaggeaa
