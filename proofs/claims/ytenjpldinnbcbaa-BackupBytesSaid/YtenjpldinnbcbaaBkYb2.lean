/- BackupBytes: a part of its walk (genbytes.py). -/
import Derived.Test.YtenjpldinnbcbaaBkY
namespace Go.Proofs.Ytenjpldinnbcbaa
open Go.RowKit
set_option linter.unusedVariables false
set_option linter.unusedSimpArgs false
set_option maxRecDepth 100000
set_option maxHeartbeats 4000000
attribute [local irreducible] Go.Calls Byt Own Parts PA BA Bools OwnD OwnT
theorem backupBytes_bad2 (W : World) (e0 : Int) (he : -9223372036854775808 ≤ e0 ∧ e0 ≤ 9223372036854775807) (x0 : Int) (hx : -9223372036854775808 ≤ x0 ∧ x0 ≤ 9223372036854775807) (n0 : Int) (hn : -9223372036854775808 ≤ n0 ∧ n0 ≤ 9223372036854775807) (v : Value) (l : List Int) (s : Ints W v l) (hb : l.length * 8 ≤ 140737488351232) (alive : Int) (ha : -9223372036854775808 ≤ alive ∧ alive ≤ 9223372036854775807) (how : Int) (hh : -9223372036854775808 ≤ how ∧ how ≤ 9223372036854775807) (E X : Int) (hEX : (how.tmod 7 = 6 ∧ E = e0 ∧ X = x0) ∨ (how.tmod 7 ≠ 6 ∧ E = withinI e0 65536 ∧ X = withinI x0 17)) (n : Nat) (hnn : (n : Int) = withinI n0 31) (c0 : ¬ (E < 0)) (c1 : ¬ (65535 < E)) (c2 : X < 0) :
    Calls Try.prog 6 #[.int .i64 e0, .int .i64 x0, .int .i64 n0, v, .int .i64 alive, .int .i64 how] W fun e W' => e = .returned (.bool true) ∧ Below W.heap.size W W' := by
  have HBAD : Hid (badP E X n how) := by show badP E X n how; unfold badP; omega
  have C0 := Lib.hid c0
  have C1 := Lib.hid c1
  have C2 := Lib.hid c2
  clear c0 c1 c2
  obtain ⟨j0, hj, hy0, hy1, hy2⟩ := info_parts uint8_info
  have hn31 : n < 31 := by have := withinI_lt n0 31 (by decide); omega
  have W1 := Lib.hid (fun w => within_any e0 65536 w (by decide) he.1 he.2)
  have W2 := Lib.hid (fun w => within_any x0 17 w (by decide) hx.1 hx.2)
  have W3 := Lib.hid (fun w => within_any n0 31 w (by decide) hn.1 hn.2)
  rw [← hnn] at W3
  have HE : Hid (-9223372036854775808 ≤ withinI e0 65536 ∧ withinI e0 65536 ≤ 9223372036854775807 ∧ -9223372036854775808 ≤ withinI x0 17 ∧ withinI x0 17 ≤ 9223372036854775807) := by
    have := withinI_ge e0 65536
    have := withinI_lt e0 65536 (by decide)
    have := withinI_ge x0 17
    have := withinI_lt x0 17 (by decide)
    show _ ∧ _ ∧ _ ∧ _
    omega
  have HEX := Lib.hid hEX
  have HE0 := Lib.hid (And.intro he (And.intro hx hh))
  have LV := Lib.hid (fun X => live_any alive 3 X (by decide) (by decide) ha)
  have HS := Lib.hid s
  have HN := Lib.hid hn31
  clear hEX s hb he hx hn ha hh hnn hn31
  go_enter Try.func6, Try.ntmps6
  go_wp2_with fail
  refine Calls.mono (bnew_any W 3 (by decide) (by decide)) ?_
  rintro r w1 ⟨rfl, ⟨lv, hs, I1⟩, b1⟩
  have HLT1 := Lib.hid I1.lts
  have hsz1 : W.heap.size < w1.heap.size := I1.lt
  have I1 := Lib.hid I1
  go_wp2_with fail
  refine Calls.mono (LV.out w1) ?_
  rintro r w2 ⟨vv, lvs, rfl, hlen, T2, b2⟩
  have B2 := belT b1 b2
  obtain ⟨t0, t1, t2, hlvs⟩ : ∃ a b c, lvs = [a, b, c] := by
    match lvs, hlen with
    | [a, b, c], _ => exact ⟨a, b, c, rfl⟩
  subst hlvs
  obtain ⟨a2, c2, rfl, _, _⟩ := T2.bools.shapeB
  have HT2 := Lib.hid T2
  have HSZ12 := Lib.hid b2.size
  have I2 := Lib.hid (I1.out.up b2)
  clear T2 b2 hlen
  go_upto_if 48 with (fail)
  go_cut [0, 1] from 48 to 52 (fun Ev Xv Y => Ev = .int .i64 E ∧ Xv = .int .i64 X ∧ w2 = Y)
  case first =>
    by_cases h7 : how.tmod 7 = 6
    · have h7a : (how.tmod 7 != 6) = false := by simp [h7]
      have hq : E = e0 ∧ X = x0 := by
        rcases HEX.out with ⟨_, h1, h2⟩ | ⟨h, _⟩
        · exact ⟨h1, h2⟩
        · exact absurd h7 h
      have HQ := Lib.hid hq
      clear hq h7
      go_wp2_with fail
      go_meet
      case rel => exact ⟨by rw [HQ.out.1], by rw [HQ.out.2], rfl⟩
    · have h7a : (how.tmod 7 != 6) = true := by simp [h7]
      have hq : E = withinI e0 65536 ∧ X = withinI x0 17 := by
        rcases HEX.out with ⟨h, _⟩ | ⟨_, h1, h2⟩
        · exact absurd h h7
        · exact ⟨h1, h2⟩
      have HQ := Lib.hid hq
      clear hq h7
      go_wp2_with fail
      refine Calls.mono (W1.out w2) ?_
      rintro r w3 ⟨rfl, rfl⟩
      go_wp2_with fail
      refine Calls.mono (W2.out w2) ?_
      rintro r w3 ⟨rfl, rfl⟩
      go_wp2
      go_meet
      case rel => exact ⟨by rw [HQ.out.1], by rw [HQ.out.2], rfl⟩
  obtain ⟨rfl, rfl, rfl⟩ := hcut
  clear W1 W2 HE
  obtain ⟨DL, hDL⟩ : ∃ DL, DL = sectL l n := ⟨_, rfl⟩
  have dl : DL.length = n := by rw [hDL]; exact sectL_len l n
  have d32 : ∀ p ∈ DL, p.length = 32 := by rw [hDL]; exact sectL_32 l n
  have d8 : ∀ p ∈ DL, ∀ y ∈ p, y < 256 := by rw [hDL]; exact sectL_byte l n
  have HDLN := Lib.hid dl
  have D32 := Lib.hid d32
  have D8 := Lib.hid d8
  have HDL := Lib.hid hDL
  have HSEC := Lib.hid (fun w h => sectors13_any v l n w h (by have := HN.out; omega))
  clear dl d32 d8 hDL
  go_wp2_with fail
  refine Calls.mono (W3.out w2) ?_
  rintro r w3 ⟨rfl, rfl⟩
  go_wp2_with fail
  refine Calls.mono (HSEC.out w2 (HS.out.up B2)) ?_
  rintro r w3 ⟨dv, rfl, D3, b3⟩
  rw [← HDL.out] at D3
  obtain ⟨ad, cd, rfl, _, _⟩ := D3.shape
  rw [HDLN.out]
  rw [HDLN.out] at D3
  have HB3 := Lib.hid b3
  have b3' := b3
  have HSZ2 : Hid (w1.heap.size ≤ w2.heap.size) := HSZ12
  have HBW3 : Hid (Below W.heap.size W w3) := Lib.hid (belT B2 b3)
  have hsz3 : w2.heap.size ≤ w3.heap.size := b3.size
  have HD3 := Lib.hid D3
  have HB2 := Lib.hid B2
  clear D3 b3 B2 HSEC W3
  have HTT : Hid (BA (ofB W.heap.size lv hs) w3 (.slice a2 3 c2) [t0, t1, t2]) := (HT2.out.up b3').ba HLT1.out
  have HI3 : Hid (IsBench w3 W.heap.size W.heap.size lv hs (B.fresh 3)) := I2.out.up b3'
  go_upto_region 9 with (fail)
  go_cut [64] from 58 to 63 (fun bv X => bv = .bool (decide (how.tmod 11 = 10 ∧ 0 < n)) ∧ w3 = X)
  case first =>
    by_cases h11 : how.tmod 11 = 10
    · have h11a : (how.tmod 11 == 10) = true := by simp [h11]
      by_cases hn0 : 0 < n
      · have hn0a : decide (0 < (n : Int)) = true := decide_eq_true (by omega)
        have hn0b : (0 < (n : Int)) = True := eq_true (by omega)
        go_wp2_with fail
        go_meet
        case rel => exact ⟨congrArg Value.bool (decide_eq_true (p := how.tmod 11 = 10 ∧ 0 < n) ⟨h11, hn0⟩).symm, rfl⟩
      · have hn0a : decide (0 < (n : Int)) = false := decide_eq_false (by omega)
        have hn0b : (0 < (n : Int)) = False := eq_false (by omega)
        go_wp2_with fail
        go_meet
        case rel => exact ⟨congrArg Value.bool (decide_eq_false (p := how.tmod 11 = 10 ∧ 0 < n) (fun h => hn0 h.2)).symm, rfl⟩
    · have h11a : (how.tmod 11 == 10) = false := by simp [h11]
      go_wp2_with fail
      go_meet
      case rel => exact ⟨congrArg Value.bool (decide_eq_false (p := how.tmod 11 = 10 ∧ 0 < n) (fun h => h11 h.1)).symm, rfl⟩
  obtain ⟨rfl, rfl⟩ := hcut
  go_upto_if 64 with (fail)
  go_cut [16] from 64 to 74 (fun dv X => ∃ ad cd, dv = .slice ad n cd ∧ Hid (PA (ofB W.heap.size lv hs) X (.slice ad n cd) (cutL (how.tmod 11 = 10 ∧ 0 < n) DL)) ∧ Hid (BA (ofB W.heap.size lv hs) X (.slice a2 3 c2) [t0, t1, t2]) ∧ Hid (IsBench X W.heap.size W.heap.size lv hs (B.fresh 3)) ∧ Below W.heap.size W X ∧ w2.heap.size ≤ X.heap.size)
  case first =>
    by_cases hT : how.tmod 11 = 10 ∧ 0 < n
    · rw [decide_eq_true hT]
      obtain ⟨k, hkn⟩ : ∃ k, n = k + 1 := ⟨n - 1, by omega⟩
      have hk1 : IntKind.i64.wrap ((n : Int) - 1) = (k : Int) := by rw [IntKind.wrap_i64]; have := HN.out; omega
      have hk4 : IntKind.i64.wrap (k : Int) = (k : Int) := by rw [IntKind.wrap_i64]; have := HN.out; omega
      have hk2 : (k : Int) < (n : Int) := by omega
      have hk5 : k < n := by omega
      have hk3 : (0 : Int) ≤ (k : Int) := by omega
      have hkl : k < DL.length := by rw [HDLN.out]; omega
      obtain ⟨g, rfl⟩ : ∃ g, ad = some ⟨g, 0, none⟩ := by
        have h := HD3.out
        unfold OwnD at h
        obtain ⟨cs, h1, _⟩ := h
        rcases h1.2 with ⟨e, _⟩ | ⟨g', cap', cur, e, _⟩
        · have := congrArg sliceLen e; simp [sliceLen] at this; omega
        · obtain ⟨e1, _⟩ := Value.slice.inj e; exact ⟨g', e1⟩
      have hf : w3.frozen? ⟨g, k, none⟩ = false := by obtain ⟨_, _, _, hf, _⟩ := HD3.out.at hkl; exact hf
      obtain ⟨b', off', c, p, e0', hc, hp, oc, _, hcb, _, _⟩ := HD3.out.get hkl
      cases e0'
      rw [Nat.zero_add] at hc
      have hp32 : p.length = 32 := D32.out p (List.mem_of_getElem? hp.out)
      have ocb := oc.byt
      have ocge := oc.ge
      obtain ⟨ac, cc, rfl, hcc1, _⟩ := ocb.shape
      rw [hp32] at hc ocb hcc1 hcb ocge
      have hcc3 : 3 ≤ cc := by omega
      have HPP : Hid (PA (ofB W.heap.size lv hs) (w3.setCell ⟨g, k, none⟩ (.slice ac 3 cc)) (.slice (some ⟨g, 0, none⟩) n cd) (cutL (how.tmod 11 = 10 ∧ 0 < n) DL) ∧ w3.grownBy (w3.setCell ⟨g, k, none⟩ (.slice ac 3 cc)) (some g)) := by
        have := PA.put (S := ofB W.heap.size lv hs) (k := k) (c := .slice ac 3 cc) (p := p.take 3) HD3.out (fun y hy => by have := HLT1.out y hy; have := HSZ2.out; omega) hkl (ocb.cut3 (by omega)) (fun _ y hy => ⟨ocge y (ownBlock_len hy), fun e => hcb (by rw [← e]; exact ownBlock_len hy)⟩)
        refine Lib.hid ⟨?_, this.2⟩
        unfold cutL
        rw [if_pos hT, show DL.length - 1 = k by rw [HDLN.out]; omega, show DL.getD k [] = p by rw [List.getD_eq_getElem?_getD, hp.out]; rfl]
        exact this.1
      have HP1 := Lib.hid HPP.out.1
      have hgr := HPP.out.2
      have hgge : w2.heap.size ≤ g := HD3.out.ge g rfl
      have BX3 : Below w2.heap.size w2 (w3.setCell ⟨g, k, none⟩ (.slice ac 3 cc)) := HB3.out.grown hgr HB3.out.size (fun y hy => by cases hy; exact hgge)
      have BX : Hid (Below W.heap.size W (w3.setCell ⟨g, k, none⟩ (.slice ac 3 cc)) ∧ w2.heap.size ≤ (w3.setCell ⟨g, k, none⟩ (.slice ac 3 cc)).heap.size) := Lib.hid ⟨belT HB2.out BX3, BX3.size⟩
      have HT4 : Hid (BA (ofB W.heap.size lv hs) (w3.setCell ⟨g, k, none⟩ (.slice ac 3 cc)) (.slice a2 3 c2) [t0, t1, t2]) := (HT2.out.up BX3).ba HLT1.out
      have HI4 : Hid (IsBench (w3.setCell ⟨g, k, none⟩ (.slice ac 3 cc)) W.heap.size W.heap.size lv hs (B.fresh 3)) := I2.out.up BX3
      have HKN := Lib.hid hkn
      clear hgr oc hp hp32 hkl HTT HI3 hkn ocb ocge hcb hcc1 BX3 hgge HPP b3'
      go_wp2_with fail
      go_meet
      case rel => exact ⟨_, _, rfl, HP1, HT4, HI4, BX.out.1, BX.out.2⟩
    · have HP1 : Hid (PA (ofB W.heap.size lv hs) w3 (.slice ad n cd) (cutL (how.tmod 11 = 10 ∧ 0 < n) DL)) := by
        show PA _ _ _ _
        unfold cutL
        rw [if_neg hT]
        exact HD3.out.pa (fun y hy => by have := HLT1.out y hy; have := HSZ2.out; omega)
      rw [decide_eq_false hT]
      go_wp2_with fail
      go_meet
      case rel => exact ⟨_, _, rfl, HP1, HTT, HI3, HBW3.out, hsz3⟩
  clear hsz3 HD3 HTT HI3 HBW3 HB2 HB3 b3'
  obtain ⟨ad, cd, rfl, HP3, HT3, HI3, B3, hsz3⟩ := hcut
  have HPN := Lib.hid (bkput_no W.heap.size (.slice a2 3 c2) E X (.slice ad n cd) _ wc HP3.out.parts (bad_may HDLN.out D32.out HBAD.out))
  have HG : Hid (∀ Y, Below wc.heap.size wc Y → Calls Try.prog 19 #[.pointer (some ⟨W.heap.size, 0, none⟩), .slice a2 3 c2, .int .i64 E, .int .i64 X] Y fun r w' => ∃ v, r = .returned (.tuple #[v, .bool false]) ∧ Below Y.heap.size Y w') := by
    show ∀ _, _
    intro Y hY
    by_cases hm : 0 ≤ E ∧ E < 65536 ∧ 0 ≤ X ∧ X ≤ 16
    · obtain ⟨e, rfl⟩ : ∃ e : Nat, E = (e : Int) := ⟨E.toNat, by omega⟩
      obtain ⟨x, rfl⟩ : ∃ x : Nat, X = (x : Int) := ⟨X.toNat, by omega⟩
      have := bkget_any Y _ _ _ _ _ _ _ e x (HI3.out.up hY) (B.Up.fresh 3).lv (by rw [B.fresh_len]; decide) (HT3.out.up hY).bools (by omega) (by omega)
      rw [B.getO_fresh] at this
      refine Calls.mono this ?_
      rintro r w' ⟨v, rfl, _, b⟩
      exact ⟨v, rfl, b⟩
    · refine Calls.mono (bkget_no W.heap.size _ E X Y ?_) ?_
      · unfold mayB
        rw [decide_eq_false (fun h => hm ⟨h.1, h.2.1, h.2.2.1, h.2.2.2.1⟩)]; rfl
      · rintro r w' ⟨rfl, b⟩
        exact ⟨_, rfl, b⟩
  go_wp2_with fail
  refine Calls.mono HPN.out ?_
  rintro r w4 ⟨rfl, b4⟩
  have HB4 := Lib.hid b4
  clear b4
  go_upto_region 12 with (fail)
  go_cut [18] from 81 to 107 (fun c Y => c = .bool true ∧ w4 = Y)
  case first =>
    have c0a : decide (E < 0) = false := decide_eq_false (by have := C0.out; omega)
    have c0b : (E < 0) = False := eq_false (by have := C0.out; omega)
    have c1a : decide (65535 < E) = false := decide_eq_false (by have := C1.out; omega)
    have c1b : (65535 < E) = False := eq_false (by have := C1.out; omega)
    have c2a : decide (X < 0) = true := decide_eq_true (by have := C2.out; omega)
    have c2b : (X < 0) = True := eq_true (by have := C2.out; omega)
    go_wp2_with fail
    go_meet
    case rel => exact ⟨rfl, rfl⟩
  obtain ⟨rfl, rfl⟩ := hcut
  go_wp2_with fail
  refine Calls.mono (HG.out w4 HB4.out) ?_
  rintro r w5 ⟨gv, rfl, b5⟩
  have HWC := bwrites_any w5 _ _ _ _ _ (HI3.out.up (belT HB4.out b5))
  rw [show (B.fresh 3).writes = 0 from rfl] at HWC
  have HWC := Lib.hid HWC
  go_wp2_with fail
  refine Calls.mono HWC.out ?_
  rintro r w6 ⟨rfl, rfl⟩
  go_wp2_with fail
  refine Calls.mono (wakes19_any _) ?_
  rintro r w7 ⟨rfl, b7⟩
  go_wp2
  go_ret
  exact ⟨rfl, belT B3 (belT HB4.out (belT b5 b7))⟩
end Go.Proofs.Ytenjpldinnbcbaa
