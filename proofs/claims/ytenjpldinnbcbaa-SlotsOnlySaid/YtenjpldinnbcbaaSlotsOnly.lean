/- The law SlotsOnly (chapter 10). True at every input. -/
import Derived.Test.YtenjpldinnbcbaaSlO
import Derived.Deep.CutRange
import Derived.Deep.RegionHeld3
namespace Go.Proofs.Ytenjpldinnbcbaa
open Go.RowKit C
set_option linter.unusedVariables false
set_option linter.unusedSimpArgs false
set_option maxRecDepth 100000
set_option maxHeartbeats 2000000

/-- behind some damages -/
def OJ (W : World) (lv : Value) (X : World) : Prop := ∃ hs c, IsBench X W.heap.size W.heap.size lv hs c ∧ OI c ∧ Below W.heap.size W X
theorem OJ.up {W X Y : World} {lv : Value} (h : OJ W lv X) (k : Below X.heap.size X Y) : OJ W lv Y := by
  obtain ⟨hs, c, I, O, B⟩ := h
  exact ⟨hs, c, I.up k, O, belT B k⟩
theorem wz52 (k : Nat) (h : k < 52) : wrap64 (k : Int) = (k : Int) := by unfold wrap64; omega
attribute [local irreducible] Go.Calls Byt Own Parts PA BA Bools OwnD OwnT OwnS Ints
theorem slotsOnly_law (W : World) (gn : Int) (hgn : -9223372036854775808 ≤ gn ∧ gn ≤ 9223372036854775807) (n0 : Int) (hn : -9223372036854775808 ≤ n0 ∧ n0 ≤ 9223372036854775807) (alive : Int) (hal : -9223372036854775808 ≤ alive ∧ alive ≤ 9223372036854775807) (v : Value) (l : List Int) (s0 : Ints W v l) (hb : l.length * 8 ≤ 140737488351232) :
    Calls Try.prog 12 #[.int .i64 gn, .int .i64 n0, .int .i64 alive, v] W fun e W' => e = .returned (.bool true) ∧ Below W.heap.size W W' := by
  obtain ⟨k5, e5, l5, W5⟩ := within_nat gn 5000 (by decide) (by decide) hgn
  clear e5
  obtain ⟨g, hg⟩ : ∃ g, g = 1 + k5 := ⟨_, rfl⟩
  have hg1 : IntKind.i64.wrap (1 + (k5 : Int)) = (g : Int) := by rw [IntKind.wrap_i64]; omega
  obtain ⟨G, ep, hG, hep, hone⟩ := one_fix n0 hn
  have hone := hone (g : Int)
  obtain ⟨s, hs'⟩ : ∃ s, s = supG G ep (g : Int) := ⟨_, rfl⟩
  have hok : s.ok = true := by rw [hs']; exact supG_ok hG hep (by omega) (by omega)
  have hsl : slotN s = g % 2 := by
    rw [hs']; unfold slotN
    show (if ((g : Int)).tmod 2 = 1 then 1 else 0) = g % 2
    have : ((g : Int)).tmod 2 = ((g % 2 : Nat) : Int) := rfl
    rw [this]; split <;> omega
  have hgs : s.gen ≠ 0 := by rw [hs']; show (g : Int) ≠ 0; omega
  rw [← hs'] at hone
  have hst := fun (w : World) base gb lv hs b vv lvs h hU hb0 hL hn hp hw => store_yes w base gb lv hs b vv lvs s h hU hb0 hL hok hn hp hw
  have hby := fun (w : World) base gb lv hs b h hL hn hb => best_yes w base gb lv hs b h hL hn s hb hgs
  have hq := fun w => seq_run s s w
  rw [(Sup.same_iff s s).2 rfl] at hq
  unfold sv at hone hst hby hq
  have HONE := Lib.hid hone
  have HST := Lib.hid hst
  have HBY := Lib.hid hby
  have HQ := Lib.hid hq
  have HOK := Lib.hid hok
  have HSL := Lib.hid hsl
  have LV := Lib.hid (fun X => live2_any alive 4 X (by decide) (by decide) hal)
  have HS := Lib.hid s0
  obtain ⟨al, cl, rfl, hl1, hl2⟩ := s0.shapeI
  obtain ⟨nl, hnl⟩ : ∃ nl, nl = l.length := ⟨_, rfl⟩
  rw [← hnl] at HS ⊢
  have HNL := Lib.hid hnl
  have HGN := Lib.hid (show 1 ≤ g ∧ g ≤ 5000 by omega)
  clear s0 hl1 hl2 hnl hb hgn hn hal l5 hg hG hep hone hok hsl hgs hst hby hq hs'
  go_enter Try.func12, Try.ntmps12
  go_wp2_with fail
  refine Calls.mono (bnew_any W 4 (by decide) (by decide)) ?_
  rintro r w1 ⟨rfl, ⟨lv, hs, I1⟩, b1⟩
  have hsz1 : W.heap.size < w1.heap.size := I1.lt
  have HM0 : Hid (OJ W lv w1) := ⟨hs, B.fresh 4, I1, OI.zero, b1⟩
  clear I1 b1
  go_wp2
  go_loopw [11] (fun iv X => ∃ i : Nat, i ≤ 208 ∧ iv = .int .i64 i ∧ Hid (OJ W lv X)) (fun iv _ => 208 - (intOf iv).toNat)
  case atStart => exact ⟨0, Nat.zero_le _, rfl, HM0⟩
  case round =>
    obtain ⟨i, hi3, rfl, HM⟩ := hrel
    by_cases hlt : i < 208
    · have i1 : (i : Int) < 208 := by omega
      have i1' : decide ((i : Int) < 208) = true := decide_eq_true i1
      have i0 : (0 : Int) ≤ (i : Int) := by omega
      have i2 : IntKind.i64.wrap ((i : Int) + 1) = ((i + 1 : Nat) : Int) := by rw [IntKind.wrap_i64]; omega
      obtain ⟨d4, hd4⟩ : ∃ d4, d4 = i % 4 := ⟨_, rfl⟩
      obtain ⟨a4, ha4⟩ : ∃ a4, a4 = i / 4 := ⟨_, rfl⟩
      have i5 := wz52 a4 (by rw [ha4]; omega)
      have HI := Lib.hid (show i < 208 ∧ d4 < 4 ∧ a4 < 52 from ⟨hlt, by rw [hd4]; omega, by rw [ha4]; omega⟩)
      have i3 : ((i : Int)).tmod 4 = (d4 : Int) := by rw [hd4]; rfl
      have i4 : ((i : Int)).tdiv 4 = (a4 : Int) := by rw [ha4]; rfl
      clear hlt hi3 hd4 ha4
      go_upto_if 44 with (fail)
      go_cut [12] from 44 to 48 (fun kv X => ∃ k : Int, kv = .int .i64 k ∧ Hid (-9223372036854775808 ≤ k ∧ k ≤ 9223372036854775807) ∧ wr = X)
      case first =>
        by_cases hil : i < nl
        · have hl1 : decide ((i : Int) < (nl : Int)) = true := decide_eq_true (by omega)
          have hl2 : ((i : Int) < (nl : Int)) = True := eq_true (by omega)
          have hBW : Below W.heap.size W wr := by obtain ⟨_, _, _, _, b⟩ := HM.out; exact b
          obtain ⟨bb, ob, ai, hbo, hcc, _, har⟩ := (HS.out.up hBW).cellAt (k := i) (by rw [← HNL.out]; exact hil)
          subst hbo
          have HAR := Lib.hid har
          clear har hBW
          go_wp2_with fail
          go_meet
          case rel => exact ⟨ai, rfl, HAR, rfl⟩
        · have hl1 : decide ((i : Int) < (nl : Int)) = false := decide_eq_false (by omega)
          have hl2 : ((i : Int) < (nl : Int)) = False := eq_false (by omega)
          have HAR : Hid (-9223372036854775808 ≤ (i : Int) ∧ (i : Int) ≤ 9223372036854775807) := Lib.hid (by have := HI.out; omega)
          have HIL := Lib.hid hil
          clear hil
          go_wp2_with fail
          go_meet
          case rel => exact ⟨_, rfl, HAR, rfl⟩
      obtain ⟨k, rfl, HKB, rfl⟩ := hcut
      obtain ⟨hs1, c, I1, O1, BW⟩ := HM.out
      have I1 := Lib.hid I1
      have O1 := Lib.hid O1
      clear HM
      go_wp2_with fail
      refine Calls.mono (sector_any k wr HKB.out) ?_
      rintro r w3 ⟨xv, rfl, O3, b3⟩
      have hlt3 := I1.out.lts
      have HDM := Lib.hid (bdmg_any w3 _ _ _ _ _ d4 a4 xv _ (I1.out.up b3) (by rw [O1.out.len]; exact HI.out.2.1) O3.byt (by have := (belT BW b3).size; omega) O1.out.p)
      have I3 := Lib.hid (I1.out.up b3)
      have BW3 := belT BW b3
      obtain ⟨ao, cap, rfl, _, _⟩ := O3.byt.shape
      clear O3 b3 hlt3 BW
      go_wp2_with fail
      refine Calls.mono HDM.out ?_
      rintro r w4 ⟨⟨er, rfl⟩, hs4, I4, F4, q4⟩
      have HNX : Hid (OJ W lv w4) := ⟨hs4, _, I4, O1.out.dmg HI.out.2.1 HI.out.2.2 k, Fr.below BW3 F4 (by have := BW3.size; omega) I3.out.ges⟩
      clear I4 F4 q4 HDM
      go_wp2
      go_roundw
      case rel => exact ⟨i + 1, HI.out.1, by go_num, HNX⟩
      case measure => have := HI.out; simp [intOf]; omega
    · have hie : i = 208 := by omega
      subst hie
      obtain ⟨hs1, c, I1, O1, BW⟩ := HM.out
      have I1 := Lib.hid I1
      have O1 := Lib.hid O1
      have HCLN := Lib.hid (bclone_any wr _ _ _ _ _ I1.out (by rw [O1.out.len]; decide) (fun d hd => by have := O1.out.p d hd; omega))
      clear HM HM0 hlt hi3
      go_wp2_with fail
      refine Calls.mono HCLN.out ?_
      rintro r w2 ⟨rfl, ⟨lv2, hs2, I2⟩, b2⟩
      have HLT1 := Lib.hid I1.out.lts
      have I2 := Lib.hid I2
      have I1b := Lib.hid (I1.out.up b2)
      have BW2 := belT BW b2
      clear b2 HCLN I1
      go_wp2_with fail
      refine Calls.mono (W5.out _) ?_
      rintro r w3 ⟨rfl, rfl⟩
      go_wp2_with fail
      refine Calls.mono (LV.out _) ?_
      rintro r w3 ⟨vv, lvs, rfl, hlen, hal2, T3, b3⟩
      obtain ⟨a2, c2, rfl, _, _⟩ := T3.bools.shapeB
      rw [hlen]
      rw [hlen] at T3
      have HLEN := Lib.hid hlen
      obtain ⟨kl, hkl, hklv⟩ := hal2.one hlen
      have HKL := Lib.hid (And.intro hkl hklv)
      have T3 := Lib.hid T3
      have B3 := Lib.hid b3
      clear b3 hal2 hkl hklv
      go_wp2_with fail
      refine Calls.mono (HONE.out _) ?_
      rintro r w4 ⟨rfl, b4⟩
      have B4 := belT B3.out b4
      have HP := HST.out w4 _ _ _ _ _ _ _ (I1b.out.up B4) O1.out.pw (by have := (belT BW2 B4).size; omega) ((T3.out.up b4).ba (fun y hy => by have := I1b.out.lts y hy; omega)) (by rw [O1.out.len]; decide) O1.out.p (by have := O1.out.w; omega)
      have HP := Lib.hid HP
      have LV4 := Lib.hid ((T3.out.up b4).ba (S := ofB W.heap.size lv hs1) (fun y hy => by have := I1b.out.lts y hy; omega))
      have I14 := Lib.hid (I1b.out.up B4)
      have I24 := Lib.hid (I2.out.up B4)
      have BW4 := belT BW2 B4
      clear b4 B4
      go_wp2_with fail
      refine Calls.mono HP.out ?_
      rintro r w5 ⟨rfl, hs5, I5, F5, q5⟩
      obtain ⟨C, hC⟩ : ∃ C, C = B.storeB c lvs (slotN s) s.enc := ⟨_, rfl⟩
      obtain ⟨z1, z2, z3, z4, z5, z6⟩ := O1.out.store HLEN.out HOK.out HKL.out.1 HKL.out.2
      rw [← hC] at I5 z1 z2 z3 z4 z5 z6
      have HZ := Lib.hid (And.intro z1 (And.intro z2 (And.intro z3 (And.intro z4 (And.intro z5 z6)))))
      have I25 := Lib.hid (I24.out.fr F5 (fun x hx h => by have := I24.out.ges x hx; have := HLT1.out x h; omega))
      have LV5 := Lib.hid (LV4.out.step F5 q5)
      have BW5 := Fr.below BW4 F5 (by have := BW4.size; omega) I14.out.ges
      have I5 := Lib.hid I5
      clear hC z1 z2 z3 z4 z5 z6 F5 q5 HP
      go_wp2
      go_loopw [15] (fun dv X => ∃ d : Nat, d ≤ 4 ∧ dv = .int .i64 d ∧ Below w5.heap.size w5 X) (fun dv _ => 4 - (intOf dv).toNat)
      case atStart => exact ⟨0, Nat.zero_le _, rfl, belR _⟩
      case round =>
        obtain ⟨d, hd3, rfl, BX⟩ := hrel
        by_cases hdl : d < 4
        · have d1 : (d : Int) < 4 := by omega
          have d1' : decide ((d : Int) < 4) = true := decide_eq_true d1
          have d0 : (0 : Int) ≤ (d : Int) := by omega
          have d2 : IntKind.i64.wrap ((d : Int) + 1) = ((d + 1 : Nat) : Int) := by rw [IntKind.wrap_i64]; omega
          have HDL := Lib.hid hdl
          clear hdl hd3
          go_wp2
          go_loopw [16] (fun av Y => ∃ a : Nat, a ≤ 52 ∧ av = .int .i64 a ∧ Below w5.heap.size w5 Y) (fun av _ => 52 - (intOf av).toNat)
          case atStart => exact ⟨0, Nat.zero_le _, rfl, BX⟩
          case round =>
            obtain ⟨a, ha3, rfl, BY⟩ := hrel
            by_cases hall : a < 52
            · have a1 : (a : Int) < 52 := by omega
              have a1' : decide ((a : Int) < 52) = true := decide_eq_true a1
              have a0 : (0 : Int) ≤ (a : Int) := by omega
              have a2' : IntKind.i64.wrap ((a : Int) + 1) = ((a + 1 : Nat) : Int) := by rw [IntKind.wrap_i64]; omega
              have HAL := Lib.hid hall
              have HR1 := bread_lv wr _ _ _ _ C d a (I5.out.up BY) HZ.out.1.lv (by rw [HZ.out.2.1]; exact HDL.out) hall
              rw [HZ.out.2.2.2.2.1 d HDL.out] at HR1
              simp only [Bool.false_eq_true, if_false] at HR1
              have HR1 := Lib.hid HR1
              clear hall ha3
              go_wp2_with fail
              refine Calls.mono HR1.out ?_
              rintro r w6 ⟨xv, rfl, OX, b6⟩
              have HR2 := bread_lv w6 _ _ _ _ c d a (I25.out.up (belT BY b6)) O1.out.pw.lv (by rw [O1.out.len]; exact HDL.out) HAL.out
              rw [O1.out.f d HDL.out] at HR2
              simp only [Bool.false_eq_true, if_false] at HR2
              have HR2 := Lib.hid HR2
              have OX := Lib.hid OX
              have BY6 := belT BY b6
              clear b6
              go_wp2_with fail
              refine Calls.mono HR2.out ?_
              rintro r w7 ⟨yv, rfl, OY, b7⟩
              have OX7 := Lib.hid (OX.out.up b7)
              have OY7 := Lib.hid OY
              have BY7 := belT BY6 b7
              clear OY b7
              go_upto_region 26 with (fail)
              obtain ⟨bv, ov, tv, hbv, hcv, htv⟩ := (LV5.out.up BY7).bools.cellAt (k := d) (by rw [HLEN.out]; exact HDL.out)
              have HBV := Lib.hid hbv
              subst hbv
              have htv' : B.live1 lvs d = tv := by unfold B.live1; rw [List.getD_eq_getElem?_getD, htv.out]; rfl
              have HTV := Lib.hid htv'
              obtain ⟨mine, hmine⟩ : ∃ mine, mine = (tv && decide (a = g % 2)) := ⟨_, rfl⟩
              have HMI := Lib.hid hmine
              clear htv htv' hmine
              go_cut [21] from 95 to 116 (fun b Y => b = .bool mine ∧ w7 = Y)
              case first =>
                cases tv with
                | false =>
                  have HM2 : Hid (mine = false) := by rw [HMI.out]; exact Lib.hid rfl
                  go_wp2_with fail
                  go_meet
                  case rel => exact ⟨by rw [HM2.out], rfl⟩
                | true =>
                  obtain ⟨g2, hg2⟩ : ∃ g2, g2 = g % 2 := ⟨_, rfl⟩
                  have hgt : ((g : Int)).tmod 2 = (g2 : Int) := by rw [hg2]; rfl
                  have hg01 : g2 = 0 ∨ g2 = 1 := by omega
                  have HM3 : Hid (mine = decide (a = g2)) := by rw [HMI.out, ← hg2]; exact Lib.hid (by simp)
                  clear hg2
                  by_cases ha0 : a = 0
                  · subst ha0
                    rcases hg01 with rfl | rfl
                    · have HM2 : Hid (mine = true) := by rw [HM3.out]; exact Lib.hid rfl
                      go_wp2_with fail
                      go_meet
                      case rel => exact ⟨by rw [HM2.out], rfl⟩
                    · have HM2 : Hid (mine = false) := by rw [HM3.out]; exact Lib.hid rfl
                      go_wp2_with fail
                      go_meet
                      case rel => exact ⟨by rw [HM2.out], rfl⟩
                  · have ha0' : ((a : Int) == 0) = false := by simp; omega
                    by_cases ha1 : a = 1
                    · subst ha1
                      rcases hg01 with rfl | rfl
                      · have HM2 : Hid (mine = false) := by rw [HM3.out]; exact Lib.hid rfl
                        go_wp2_with fail
                        go_meet
                        case rel => exact ⟨by rw [HM2.out], rfl⟩
                      · have HM2 : Hid (mine = true) := by rw [HM3.out]; exact Lib.hid rfl
                        go_wp2_with fail
                        go_meet
                        case rel => exact ⟨by rw [HM2.out], rfl⟩
                    · have ha1' : ((a : Int) == 1) = false := by simp; omega
                      have HM2 : Hid (mine = false) := by rw [HM3.out]; exact Lib.hid (decide_eq_false (by omega))
                      have HN0 := Lib.hid (And.intro ha0 ha1)
                      clear ha0 ha1
                      go_wp2_with fail
                      go_meet
                      case rel => exact ⟨by rw [HM2.out], rfl⟩
              obtain ⟨rfl, rfl⟩ := hcut
              cases mine with
              | true =>
                go_wp2
                go_roundw
                case rel => exact ⟨a + 1, HAL.out, by go_num, BY7⟩
                case measure => have := HAL.out; simp [intOf]; omega
              | false =>
                have hsame : B.lookB C d a = B.lookB c d a := HZ.out.2.2.2.2.2 d a HDL.out HAL.out (fun h => by
                  have := HMI.out
                  rw [← HTV.out, h.1, h.2, HSL.out] at this
                  simp at this)
                have HSM := same_any xv yv _ _ w7 OX7.out.byt OY7.out.byt
                rw [decide_eq_true hsame] at HSM
                have HSM := Lib.hid HSM
                clear hsame
                go_wp2_with fail
                refine Calls.mono HSM.out ?_
                rintro r w8 ⟨rfl, df⟩
                have BY8 := BY7.trans (df.below _)
                go_wp2
                go_roundw
                case rel => exact ⟨a + 1, HAL.out, by go_num, BY8⟩
                case measure => have := HAL.out; simp [intOf]; omega
            · have hae : a = 52 := by omega
              subst hae
              go_wp2
              go_roundw
              case rel => exact ⟨d + 1, HDL.out, by go_num, BY⟩
              case measure => have := HDL.out; simp [intOf]; omega
        · have hde : d = 4 := by omega
          subst hde
          have HBS := HBY.out wr _ _ _ _ _ (I5.out.up BX) HZ.out.1.lv (by rw [HZ.out.2.1]; decide) (by rw [HZ.out.2.1]; exact HZ.out.2.2.1)
          rw [HZ.out.2.1, HZ.out.2.2.2.1] at HBS
          have HBS := Lib.hid HBS
          clear hdl hd3
          go_wp2_with fail
          refine Calls.mono HBS.out ?_
          rintro r w6 ⟨hv, rfl, O6, b6⟩
          obtain ⟨av, cv, rfl, _, _⟩ := O6.bools.shapeB
          rw [HLEN.out]
          rw [HLEN.out] at O6
          have O6 := Lib.hid O6
          go_upto_region 30 with (fail)
          obtain ⟨X5, hX5⟩ : ∃ X5, X5 = w6.alloc (.cells #[.int .i64 s.gen, .int .i64 s.a.l, .int .i64 s.a.d, .int .i64 s.a.c, .int .i64 s.b.l, .int .i64 s.b.d, .int .i64 s.b.c, .bool s.run, .int .i64 s.win, .int .i64 s.ep, .int .i64 s.out] 72) := ⟨_, rfl⟩
          have bx5 : Below w6.heap.size w6 X5 := by rw [hX5]; exact belA1 (belR _)
          have hbx : Box X5 w6.heap.size (scl s) := by rw [hX5]; exact Box.new w6 (scl s) 72
          have HK : Hid (∀ Y, Below X5.heap.size X5 Y → (Y.cell? ⟨w6.heap.size, 0, none⟩ = some (.int .i64 s.gen) ∧ Y.cell? ⟨w6.heap.size, 1, none⟩ = some (.int .i64 s.a.l) ∧ Y.cell? ⟨w6.heap.size, 2, none⟩ = some (.int .i64 s.a.d) ∧ Y.cell? ⟨w6.heap.size, 3, none⟩ = some (.int .i64 s.a.c) ∧ Y.cell? ⟨w6.heap.size, 4, none⟩ = some (.int .i64 s.b.l) ∧ Y.cell? ⟨w6.heap.size, 5, none⟩ = some (.int .i64 s.b.d) ∧ Y.cell? ⟨w6.heap.size, 6, none⟩ = some (.int .i64 s.b.c) ∧ Y.cell? ⟨w6.heap.size, 7, none⟩ = some (.bool s.run) ∧ Y.cell? ⟨w6.heap.size, 8, none⟩ = some (.int .i64 s.win) ∧ Y.cell? ⟨w6.heap.size, 9, none⟩ = some (.int .i64 s.ep) ∧ Y.cell? ⟨w6.heap.size, 10, none⟩ = some (.int .i64 s.out))) := Lib.hid (fun Y hY => (hbx.fr (Fr.of_below (S := fun _ => False) hY) id).sup)
          rw [← hX5]
          have hqq : ∀ w, _ := HQ.out
          have BX6 := belT BX (belT b6 bx5)
          have O7 := Lib.hid (O6.out.up bx5)
          have HX5 := Lib.hid hX5
          clear hX5 hbx b6 bx5
          go_cut [144] from 131 to 143 (fun bv Y => bv = .bool false ∧ Below X5.heap.size X5 Y)
          case first =>
            go_region_held3 (fun Y => Y.cell? ⟨w6.heap.size, 0, none⟩ = some (.int .i64 s.gen) ∧ Y.cell? ⟨w6.heap.size, 1, none⟩ = some (.int .i64 s.a.l) ∧ Y.cell? ⟨w6.heap.size, 2, none⟩ = some (.int .i64 s.a.d) ∧ Y.cell? ⟨w6.heap.size, 3, none⟩ = some (.int .i64 s.a.c) ∧ Y.cell? ⟨w6.heap.size, 4, none⟩ = some (.int .i64 s.b.l) ∧ Y.cell? ⟨w6.heap.size, 5, none⟩ = some (.int .i64 s.b.d) ∧ Y.cell? ⟨w6.heap.size, 6, none⟩ = some (.int .i64 s.b.c) ∧ Y.cell? ⟨w6.heap.size, 7, none⟩ = some (.bool s.run) ∧ Y.cell? ⟨w6.heap.size, 8, none⟩ = some (.int .i64 s.win) ∧ Y.cell? ⟨w6.heap.size, 9, none⟩ = some (.int .i64 s.ep) ∧ Y.cell? ⟨w6.heap.size, 10, none⟩ = some (.int .i64 s.out))
              ((refine HK.out _ ?_; iterate 8 try (first | assumption | apply belDr | apply belAlloc | exact belR _)))
              ((go_at_call 37; refine Calls.mono (HONE.out _) ?_; rintro e wx ⟨rfl, bx⟩; have bx1 := belT (show Below X5.heap.size X5 _ from (by iterate 8 try (first | exact belR _ | apply belDr))) bx))
            go_wp2
            go_meet
            case rel => exact ⟨rfl, bx1⟩
          obtain ⟨rfl, Bc⟩ := hcut
          have BX7 := belT BX6 Bc
          have O8 := Lib.hid (O7.out.up Bc)
          have LV8 := Lib.hid (LV5.out.up BX7)
          clear hqq Bc
          go_wp2
          go_loopw [147] (fun kv Y => ∃ k : Nat, k ≤ 4 ∧ kv = .int .i64 k ∧ Below wc.heap.size wc Y) (fun kv _ => 4 - (intOf kv).toNat)
          case atStart => exact ⟨0, Nat.zero_le _, rfl, belR _⟩
          case round =>
            obtain ⟨k, hk4, rfl, BK⟩ := hrel
            by_cases hkl : k < 4
            · have k1 : (k : Int) < 4 := by omega
              have k0 : (0 : Int) ≤ (k : Int) := by omega
              have k2 : IntKind.i64.wrap ((k : Int) + 1) = ((k + 1 : Nat) : Int) := by rw [IntKind.wrap_i64]; omega
              have HKK := Lib.hid hkl
              obtain ⟨b1, o1, t1, e1, c1, y1⟩ := (O8.out.up BK).bools.cellAt (k := k) (by rw [HLEN.out]; exact hkl)
              obtain ⟨b2, o2, t2, e2, c2', y2⟩ := (LV8.out.up BK).bools.cellAt (k := k) (by rw [HLEN.out]; exact hkl)
              have ett := y1.out.symm.trans y2.out
              cases ett
              have E12 := Lib.hid (And.intro e1 e2)
              subst e1
              subst e2
              clear y1 y2 hkl hk4
              have HK2 : Hid (∀ Y, Below wr.heap.size wr Y → (Y.cell? ⟨b1, o1 + k, none⟩ = some (.bool t1) ∧ Y.cell? ⟨b2, o2 + k, none⟩ = some (.bool t1))) := by
                show ∀ Y, _
                intro Y hY
                exact ⟨by rw [hY.cell (World.block_lt_of_cell? _ _ c1)]; exact c1, by rw [hY.cell (World.block_lt_of_cell? _ _ c2')]; exact c2'⟩
              go_upto_region 35 with (fail)
              go_region_held3 (fun Y => Y.cell? ⟨b1, o1 + k, none⟩ = some (.bool t1) ∧ Y.cell? ⟨b2, o2 + k, none⟩ = some (.bool t1))
                ((refine HK2.out _ ?_; iterate 8 try (first | assumption | apply belDr | apply belAlloc | exact belR _)))
                (fail)
              have BKE : Below wc.heap.size wc wr := BK
              cases t1 with
              | true =>
                go_wp2
                go_roundw
                case rel => exact ⟨k + 1, HKK.out, by go_num, (by iterate 12 try (first | assumption | apply belDr | apply belAlloc | exact belR _))⟩
                case measure => have := HKK.out; simp [intOf]; omega
              | false =>
                go_wp2
                go_roundw
                case rel => exact ⟨k + 1, HKK.out, by go_num, (by iterate 12 try (first | assumption | apply belDr | apply belAlloc | exact belR _))⟩
                case measure => have := HKK.out; simp [intOf]; omega
            · have hke : k = 4 := by omega
              subst hke
              go_wp2_with fail
              refine Calls.mono (wakes10_any wr) ?_
              rintro r wz ⟨rfl, bz⟩
              go_wp2
              go_ret
              exact ⟨rfl, belT BW5 (belT BX7 (belT BK bz))⟩
end Go.Proofs.Ytenjpldinnbcbaa
