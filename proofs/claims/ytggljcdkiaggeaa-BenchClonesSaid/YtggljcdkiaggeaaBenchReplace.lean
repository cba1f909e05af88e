/- The law BenchReplace: a disk that has failed has lost all; the new one in its place is blank; the others are as they were. -/
import Derived.Test.YtggljcdkiaggeaaBenchRp
namespace Go.Proofs.Ytggljcdkiaggeaa
open Go.RowKit
set_option linter.unusedVariables false
set_option linter.unusedSimpArgs false
set_option maxRecDepth 100000
set_option maxHeartbeats 2000000
theorem Ints.sh {w : World} {v : Value} {l : List Int} (h : Ints w v l) : ∃ ao cap, v = .slice ao l.length cap ∧ l.length ≤ cap ∧ cap ≤ 9223372036854775807 := by
  obtain ⟨ao, cap, rfl, h1, h2, _⟩ := h
  exact ⟨ao, cap, rfl, h1, h2⟩
theorem Ints.getE {w : World} {ao : Option Addr} {n cap : Nat} {l : List Int} (h : Ints w (.slice ao n cap) l) {k : Nat} (hk : k < n) :
    ∃ b off x, ao = some ⟨b, off, none⟩ ∧ w.cell? ⟨b, off + k, none⟩ = some (.int .i64 x) ∧ (-9223372036854775808 ≤ x ∧ x ≤ 9223372036854775807) ∧ l[k]? = some x := by
  obtain ⟨ao', cap', e, h1, h2, h0, h8, hA⟩ := h
  cases e
  obtain ⟨b, off, c, rfl, hc, hk2⟩ := hA.cell (k := k) (by simpa using hk)
  rw [List.getElem?_map, List.getElem?_eq_getElem hk] at hk2
  simp only [Option.map_some, Option.some.injEq] at hk2
  have := h8 l[k] (List.getElem_mem hk)
  exact ⟨b, off, l[k], rfl, by rw [hc, ← hk2]; rfl, this, List.getElem?_eq_getElem hk⟩
def nR (l : List Int) (i : Nat) : Int := (l[i]?).getD (i : Int)
def xR (l : List Int) (i : Nat) : List Nat := secL (nR l i)
theorem apart_own {w w' : World} {base g b0 : Nat} {lv v : Value} {hs : List (Nat × Value)} {b : B.Bn} {l : List Nat} (h : IsBench w base g lv hs b) (ho : Own w' b0 v l) (hb : w.heap.size ≤ b0) : ∀ y, v.ownBlock = some y → ¬ ofB g lv hs y := fun y hy hof => by
  have h1 := h.lts y hof
  have h2 := ho.ge y hy
  omega
theorem four {P : Nat → Prop} {d : Nat} (hd : d < 4) (h0 : P 0) (h1 : P 1) (h2 : P 2) (h3 : P 3) : P d := by
  have : d = 0 ∨ d = 1 ∨ d = 2 ∨ d = 3 := by omega
  rcases this with rfl | rfl | rfl | rfl <;> assumption
theorem pend_fail (xs : Nat → List Nat) {d : Nat} (hd : d < 4) : B.pending { B.qb xs 208 with ds := ((B.qb xs 208).ds.set d D.fail).set d D.fail } = 156 := by
  have h0 := B.pq_full xs (j := 0) (by decide)
  have h1 := B.pq_full xs (j := 1) (by decide)
  have h2 := B.pq_full xs (j := 2) (by decide)
  have h3 := B.pq_full xs (j := 3) (by decide)
  have hf : D.fail.p.length = 0 := rfl
  refine four (P := fun d => B.pending { B.qb xs 208 with ds := ((B.qb xs 208).ds.set d D.fail).set d D.fail } = 156) hd ?_ ?_ ?_ ?_
  all_goals
    unfold B.pending B.qb
    simp [h0, h1, h2, h3, hf]
attribute [local irreducible] Go.Calls Byt Own Parts Ints
theorem benchReplace_law (W : World) (d : Int) (hd : -9223372036854775808 ≤ d ∧ d ≤ 9223372036854775807) (av : Value) (l : List Int) (ha : Ints W av l) (hal : l.length * 8 ≤ 140737488351232) :
    Calls Try.prog 10 #[.int .i64 d, av] W fun e W' => e = .returned (.bool true) ∧ Below W.heap.size W W' := by
  obtain ⟨j0, hj, hy0, hy1, hy2⟩ := info_parts uint8_info
  have HAS := Lib.hid ha
  obtain ⟨aoa, capa, rfl, hr1, hr2⟩ := Ints.sh ha
  clear ha
  go_enter Try.func10, Try.ntmps10
  go_wp2_with fail
  refine Calls.mono (bnew_any W 4 (by decide) (by decide)) ?_
  rintro e w1 ⟨rfl, ⟨lv, hs, H1⟩, b1⟩
  have e2 : B.fresh 4 = B.qb (xR l) 0 := rfl
  rw [e2] at H1
  have HR0 : Hid (∃ hs', IsBench w1 W.heap.size W.heap.size lv hs' (B.qb (xR l) 0) ∧ Below W.heap.size W w1) := ⟨hs, H1, b1⟩
  clear H1 b1 e2
  go_wp2_with fail
  go_loopw [7] (fun i w' => ∃ k : Nat, k ≤ 208 ∧ i = .int .i64 k ∧ Hid (∃ hs', IsBench w' W.heap.size W.heap.size lv hs' (B.qb (xR l) k) ∧ Below W.heap.size W w')) (fun i _ => 208 - (intOf i).toNat)
  case atStart => exact ⟨0, Nat.zero_le _, rfl, HR0⟩
  case round =>
    clear HR0
    obtain ⟨k, hk, rfl, HR⟩ := hrel
    obtain ⟨hs', H3, B3⟩ := HR.out
    by_cases hlt : k < 208
    · have HST : Hid (B.writeE (B.qb (xR l) k) ((k : Int) % 4) ((k : Int) / 4) (xR l k) = 0 ∧ B.write (B.qb (xR l) k) ((k : Int) % 4) ((k : Int) / 4) (xR l k) = B.qb (xR l) (k + 1)) := B.qb_step (xR l) (fun i => secL_len _) k hlt
      have HSZ : Hid (∀ dk ∈ (B.qb (xR l) k).ds, (dk.p.length + 1) * 40 ≤ 140737488355328) := fun dk hdk => by
        obtain ⟨jj, hjl, hjj⟩ := List.getElem_of_mem hdk
        have h4 : jj < 4 := hjl
        have h5 := B.qb_get (xR l) k h4
        rw [List.getElem?_eq_getElem hjl, hjj] at h5
        cases h5
        have := B.pq_small 4 (xR l) jj k
        omega
      have HWL : Hid ((-4611686018427387904 < (B.qb (xR l) k).writes ∧ (B.qb (xR l) k).writes < 4611686018427387904) ∧ -4611686018427387904 < (B.qb (xR l) k).left ∧ (B.qb (xR l) k).left ≤ 9223372036854775807) := by
        show (-4611686018427387904 < (k : Int) ∧ (k : Int) < 4611686018427387904) ∧ -4611686018427387904 < (-1 : Int) ∧ (-1 : Int) ≤ 9223372036854775807
        omega
      by_cases hkl : k < l.length
      · obtain ⟨bA, offA, z, rfl, hz, hzb, hzl⟩ := Ints.getE (Ints.up HAS.out B3) hkl
        have HXR : Hid (secL z = xR l k) := by show _ = _; unfold xR nR; rw [hzl]; rfl
        clear hzl
        go_wp2_with fail
        refine Calls.mono (sector_any _ wr hzb) ?_
        rw [HXR.out]
        rintro e w4 ⟨v4, rfl, O4, b4⟩
        go_wp2_with fail
        refine Calls.mono (bwrite_any w4 _ _ _ _ _ _ _ v4 _ (H3.up b4) O4.byt (apart_own H3 O4 (Nat.le_refl _)) (Nat.le_trans B3.size b4.size) HSZ.out HWL.out.1 HWL.out.2) ?_
        rw [HST.out.1, HST.out.2]
        rintro e w5 ⟨rfl, hs5, H5, F5, q5⟩
        have B5 := Fr.below (belT B3 b4) F5 (Nat.le_trans B3.size b4.size) (fun y hy => (H3.up b4).ges y hy)
        go_wp2_with fail
        go_roundw
        case rel => exact ⟨k + 1, by omega, by go_num, Lib.hid ⟨hs5, H5, B5⟩⟩
        case measure => simp [intOf]; omega
      · have HXR : Hid (secL (k : Int) = xR l k) := by show _ = _; unfold xR nR; rw [List.getElem?_eq_none (by omega)]; rfl
        go_wp2_with fail
        refine Calls.mono (sector_any _ wr (by omega)) ?_
        rw [HXR.out]
        rintro e w4 ⟨v4, rfl, O4, b4⟩
        go_wp2_with fail
        refine Calls.mono (bwrite_any w4 _ _ _ _ _ _ _ v4 _ (H3.up b4) O4.byt (apart_own H3 O4 (Nat.le_refl _)) (Nat.le_trans B3.size b4.size) HSZ.out HWL.out.1 HWL.out.2) ?_
        rw [HST.out.1, HST.out.2]
        rintro e w5 ⟨rfl, hs5, H5, F5, q5⟩
        have B5 := Fr.below (belT B3 b4) F5 (Nat.le_trans B3.size b4.size) (fun y hy => (H3.up b4).ges y hy)
        go_wp2_with fail
        go_roundw
        case rel => exact ⟨k + 1, by omega, by go_num, Lib.hid ⟨hs5, H5, B5⟩⟩
        case measure => simp [intOf]; omega
    · have hke : k = 208 := by omega
      subst hke
      clear hlt HR hk
      go_wp2_with fail
      refine Calls.mono (within_any d 4 _ (by decide) hd.1 hd.2) ?_
      rintro e w2 ⟨rfl, rfl⟩
      have hD0 := withinI_ge d 4
      have hD1 := withinI_lt d 4 (by decide)
      obtain ⟨D0, hDD⟩ : ∃ D0, D0 = withinI d 4 := ⟨_, rfl⟩
      rw [← hDD] at hD0 hD1 ⊢
      clear hDD
      obtain ⟨dn, rfl⟩ := Int.eq_ofNat_of_zero_le hD0
      have hdn : dn < 4 := by omega
      have HPD := Lib.hid (pend_fail (xR l) hdn)
      go_wp2_with fail
      refine Calls.mono (bfail_any _ _ _ _ _ _ dn H3 (by show dn < 4; exact hdn)) ?_
      rintro e w4 ⟨rfl, hs4, H4, F4, q4⟩
      have B4 := Fr.below B3 F4 B3.size (fun y hy => H3.ges y hy)
      go_wp2_with fail
      refine Calls.mono (bfail_any _ _ _ _ _ _ dn H4 (by rw [List.length_set]; exact hdn)) ?_
      rintro e w5 ⟨rfl, hs5, H5, F5, q5⟩
      have B5 := Fr.below B4 F5 B4.size (fun y hy => H4.ges y hy)
      have hb5 : (((B.qb (xR l) 208).ds.set dn D.fail).set dn D.fail)[dn]? = some D.fail := by rw [List.getElem?_set_self (by rw [List.length_set]; exact hdn)]
      have HF5 : Hid ((B.dk { B.qb (xR l) 208 with ds := ((B.qb (xR l) 208).ds.set dn D.fail).set dn D.fail } (dn : Int)).f = true) := by show _ = _; rw [B.dk_nat hb5]; rfl
      have hl5 : dn < (((B.qb (xR l) 208).ds.set dn D.fail).set dn D.fail).length := by rw [List.length_set, List.length_set]; exact hdn
      have HL5 := Lib.hid hl5
      obtain ⟨ds5, hds5⟩ : ∃ ds5, ds5 = ((B.qb (xR l) 208).ds.set dn D.fail).set dn D.fail := ⟨_, rfl⟩
      have HDS5 := Lib.hid hds5
      have H5' : IsBench w5 W.heap.size W.heap.size lv hs5 { B.qb (xR l) 208 with ds := ds5 } := by rw [hds5]; exact H5
      rw [← hds5] at HPD HF5 HL5
      clear H5 H4 H3 B3 B4 F4 F5 q4 q5 hb5 hl5 hds5
      go_wp2_with fail
      refine Calls.mono (bfailed_any _ _ _ _ _ _ dn H5' HL5.out) ?_
      rw [HF5.out]
      rintro e w6 ⟨rfl, rfl⟩
      go_wp2_with fail
      refine Calls.mono (bpending_any _ _ _ _ _ _ H5' (by rw [HPD.out]; decide)) ?_
      rw [HPD.out]
      rintro e w6 ⟨rfl, rfl⟩
      go_wp2_with fail
      refine Calls.mono (brep_yes _ _ _ _ _ _ dn H5' HL5.out HF5.out B5.size) ?_
      rintro e w6 ⟨rfl, hs6, H6, F6, q6⟩
      have B6 := Fr.below B5 F6 B5.size (fun y hy => H5'.ges y hy)
      have HL6 : Hid (dn < (ds5.set dn D.blank).length) := by show _ < _; rw [List.length_set]; exact HL5.out
      have hb6 : (ds5.set dn D.blank)[dn]? = some D.blank := by rw [List.getElem?_set_self HL5.out]
      have HF6 : Hid ((B.dk { B.qb (xR l) 208 with ds := ds5.set dn D.blank } (dn : Int)).f = false) := by show _ = _; rw [B.dk_nat hb6]; rfl
      have HG6 : Hid (∀ i, i < 4 → ∃ dk, (ds5.set dn D.blank)[i]? = some dk ∧ dk.f = false ∧ ∀ a, a < 52 → D.look dk a = if i = dn then List.replicate 32 0 else xR l (4 * a + i)) := fun i hi => by
        by_cases e : dn = i
        · subst e
          exact ⟨D.blank, hb6, rfl, fun a ha => by rw [if_pos rfl]; exact B.blank_look a ha⟩
        · refine ⟨B.pq 4 (xR l) i 208, ?_, rfl, fun a ha => ?_⟩
          · rw [List.getElem?_set_ne e, HDS5.out, List.getElem?_set_ne e, List.getElem?_set_ne e]
            exact B.qb_get _ _ hi
          · rw [B.pq_look 4 (by decide) (xR l) hi 208 a ha, if_pos (by omega), if_neg (fun h => e h.symm)]
      go_wp2_with fail
      refine Calls.mono (bfailed_any _ _ _ _ _ _ dn H6 HL6.out) ?_
      rw [HF6.out]
      rintro e w7 ⟨rfl, rfl⟩
      go_wp2_with fail
      refine Calls.mono (brep_no _ _ _ _ _ _ dn H6 HL6.out HF6.out) ?_
      rintro e w7 ⟨rfl, rfl⟩
      have HS6 : Hid (IsBench w6 W.heap.size W.heap.size lv hs6 { B.qb (xR l) 208 with ds := ds5.set dn D.blank } ∧ Below W.heap.size W w6) := ⟨H6, B6⟩
      clear H6 B6 H5' B5 F6 q6 hb6
      go_wp2_with fail
      go_loopw [9] (fun i w' => ∃ t : Nat, t ≤ 208 ∧ i = .int .i64 t ∧ Hid (IsBench w' W.heap.size W.heap.size lv hs6 { B.qb (xR l) 208 with ds := ds5.set dn D.blank } ∧ Below W.heap.size W w')) (fun i _ => 208 - (intOf i).toNat)
      case atStart => exact ⟨0, Nat.zero_le _, rfl, HS6⟩
      case round =>
        clear HS6
        obtain ⟨t, ht, rfl, HS⟩ := hrel
        obtain ⟨H9, B9⟩ := HS.out
        by_cases hlt9 : t < 208
        · obtain ⟨d9, hd9, hf9, hlk9⟩ := HG6.out (t % 4) (by omega)
          have hrd := B.read_ok (b := { B.qb (xR l) 208 with ds := ds5.set dn D.blank }) (a := t / 4) rfl hd9 hf9 (by omega)
          rw [hlk9 _ (by omega), show 4 * (t / 4) + t % 4 = t by omega] at hrd
          clear hd9 hf9 hlk9
          by_cases hkl : t < l.length
          · by_cases heq : t % 4 = dn
            · obtain ⟨bA, offA, z, rfl, hz, hzb, hzl⟩ := Ints.getE (Ints.up HAS.out B9) hkl
              have HXR : Hid (secL z = xR l t) := by show _ = _; unfold xR nR; rw [hzl]; rfl
              clear hzl
              rw [if_pos heq] at hrd
              have hbq : ((t : Int) % 4 == (dn : Int)) = true := by rw [beq_iff_eq]; omega
              have HRD : Hid (B.readE { B.qb (xR l) 208 with ds := ds5.set dn D.blank } ((t : Int) % 4) ((t : Int) / 4) = 0 ∧ B.readL { B.qb (xR l) 208 with ds := ds5.set dn D.blank } ((t : Int) % 4) ((t : Int) / 4) = List.replicate 32 0) := hrd
              clear hrd heq
              go_wp2_with fail
              refine Calls.mono (sector_any _ wr hzb) ?_
              rw [HXR.out]
              rintro e w10 ⟨v10, rfl, O10, b10⟩
              go_wp2_with (first
                | (at_make; refine wpList_make_bytes rfl _ _ 29 rfl j0 Try.underlying29 hj hy0 hy1 hy2 _ _ _ _ 32 rfl rfl rfl rfl (by decide) ?_; intro w11 OW b11)
                | fail)
              have c10 := belT b10 b11
              refine Calls.mono (bread_any _ _ _ _ _ _ _ _ (H9.up c10)) ?_
              rw [HRD.out.1, HRD.out.2]
              rintro e w12 ⟨v12, rfl, O12, b12⟩
              go_wp2_with fail
              refine Calls.mono (same_any _ _ _ _ _ O12.byt (OW.up b12).byt) ?_
              rw [decide_eq_true rfl]
              rintro e w13 ⟨rfl, d13⟩
              have c13 := belT (belT c10 b12) (d13.below _)
              go_wp2_with fail
              go_roundw
              case rel => exact ⟨t + 1, by omega, by go_num, Lib.hid ⟨H9.up c13, belT B9 c13⟩⟩
              case measure => simp [intOf]; omega
            · obtain ⟨bA, offA, z, rfl, hz, hzb, hzl⟩ := Ints.getE (Ints.up HAS.out B9) hkl
              have HXR : Hid (secL z = xR l t) := by show _ = _; unfold xR nR; rw [hzl]; rfl
              clear hzl
              rw [if_neg heq] at hrd
              have hbq : ((t : Int) % 4 == (dn : Int)) = false := by rw [beq_eq_false_iff_ne]; omega
              have HRD : Hid (B.readE { B.qb (xR l) 208 with ds := ds5.set dn D.blank } ((t : Int) % 4) ((t : Int) / 4) = 0 ∧ B.readL { B.qb (xR l) 208 with ds := ds5.set dn D.blank } ((t : Int) % 4) ((t : Int) / 4) = xR l t) := hrd
              clear hrd heq
              go_wp2_with fail
              refine Calls.mono (sector_any _ wr hzb) ?_
              rw [HXR.out]
              rintro e w10 ⟨v10, rfl, O10, b10⟩
              go_wp2_with fail
              have c10 := b10
              have OW := O10
              refine Calls.mono (bread_any _ _ _ _ _ _ _ _ (H9.up c10)) ?_
              rw [HRD.out.1, HRD.out.2]
              rintro e w12 ⟨v12, rfl, O12, b12⟩
              go_wp2_with fail
              refine Calls.mono (same_any _ _ _ _ _ O12.byt (OW.up b12).byt) ?_
              rw [decide_eq_true rfl]
              rintro e w13 ⟨rfl, d13⟩
              have c13 := belT (belT c10 b12) (d13.below _)
              go_wp2_with fail
              go_roundw
              case rel => exact ⟨t + 1, by omega, by go_num, Lib.hid ⟨H9.up c13, belT B9 c13⟩⟩
              case measure => simp [intOf]; omega
          · by_cases heq : t % 4 = dn
            · have HXR : Hid (secL (t : Int) = xR l t) := by show _ = _; unfold xR nR; rw [List.getElem?_eq_none (by omega)]; rfl
              have hzb : -9223372036854775808 ≤ (t : Int) ∧ (t : Int) ≤ 9223372036854775807 := by omega
              rw [if_pos heq] at hrd
              have hbq : ((t : Int) % 4 == (dn : Int)) = true := by rw [beq_iff_eq]; omega
              have HRD : Hid (B.readE { B.qb (xR l) 208 with ds := ds5.set dn D.blank } ((t : Int) % 4) ((t : Int) / 4) = 0 ∧ B.readL { B.qb (xR l) 208 with ds := ds5.set dn D.blank } ((t : Int) % 4) ((t : Int) / 4) = List.replicate 32 0) := hrd
              clear hrd heq
              go_wp2_with fail
              refine Calls.mono (sector_any _ wr hzb) ?_
              rw [HXR.out]
              rintro e w10 ⟨v10, rfl, O10, b10⟩
              go_wp2_with (first
                | (at_make; refine wpList_make_bytes rfl _ _ 29 rfl j0 Try.underlying29 hj hy0 hy1 hy2 _ _ _ _ 32 rfl rfl rfl rfl (by decide) ?_; intro w11 OW b11)
                | fail)
              have c10 := belT b10 b11
              refine Calls.mono (bread_any _ _ _ _ _ _ _ _ (H9.up c10)) ?_
              rw [HRD.out.1, HRD.out.2]
              rintro e w12 ⟨v12, rfl, O12, b12⟩
              go_wp2_with fail
              refine Calls.mono (same_any _ _ _ _ _ O12.byt (OW.up b12).byt) ?_
              rw [decide_eq_true rfl]
              rintro e w13 ⟨rfl, d13⟩
              have c13 := belT (belT c10 b12) (d13.below _)
              go_wp2_with fail
              go_roundw
              case rel => exact ⟨t + 1, by omega, by go_num, Lib.hid ⟨H9.up c13, belT B9 c13⟩⟩
              case measure => simp [intOf]; omega
            · have HXR : Hid (secL (t : Int) = xR l t) := by show _ = _; unfold xR nR; rw [List.getElem?_eq_none (by omega)]; rfl
              have hzb : -9223372036854775808 ≤ (t : Int) ∧ (t : Int) ≤ 9223372036854775807 := by omega
              rw [if_neg heq] at hrd
              have hbq : ((t : Int) % 4 == (dn : Int)) = false := by rw [beq_eq_false_iff_ne]; omega
              have HRD : Hid (B.readE { B.qb (xR l) 208 with ds := ds5.set dn D.blank } ((t : Int) % 4) ((t : Int) / 4) = 0 ∧ B.readL { B.qb (xR l) 208 with ds := ds5.set dn D.blank } ((t : Int) % 4) ((t : Int) / 4) = xR l t) := hrd
              clear hrd heq
              go_wp2_with fail
              refine Calls.mono (sector_any _ wr hzb) ?_
              rw [HXR.out]
              rintro e w10 ⟨v10, rfl, O10, b10⟩
              go_wp2_with fail
              have c10 := b10
              have OW := O10
              refine Calls.mono (bread_any _ _ _ _ _ _ _ _ (H9.up c10)) ?_
              rw [HRD.out.1, HRD.out.2]
              rintro e w12 ⟨v12, rfl, O12, b12⟩
              go_wp2_with fail
              refine Calls.mono (same_any _ _ _ _ _ O12.byt (OW.up b12).byt) ?_
              rw [decide_eq_true rfl]
              rintro e w13 ⟨rfl, d13⟩
              have c13 := belT (belT c10 b12) (d13.below _)
              go_wp2_with fail
              go_roundw
              case rel => exact ⟨t + 1, by omega, by go_num, Lib.hid ⟨H9.up c13, belT B9 c13⟩⟩
              case measure => simp [intOf]; omega
        · go_wp2_with fail
          refine Calls.mono (bwrites_any _ _ _ _ _ _ H9) ?_
          rintro e w10 ⟨rfl, rfl⟩
          go_wp2_with fail
          refine Calls.mono (bwakes_any _) ?_
          rintro e w11 ⟨rfl, b11⟩
          go_wp2
          go_ret
          exact ⟨rfl, belT B9 b11⟩
end Go.Proofs.Ytggljcdkiaggeaa
