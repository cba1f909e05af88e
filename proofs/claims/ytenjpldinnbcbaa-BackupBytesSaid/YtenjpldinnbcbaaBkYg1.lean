/- BackupBytes: a part of its walk (genbytes.py). -/
import Derived.Test.YtenjpldinnbcbaaBkY
namespace Go.Proofs.Ytenjpldinnbcbaa
open Go.RowKit
set_option linter.unusedVariables false
set_option linter.unusedSimpArgs false
set_option maxRecDepth 100000
set_option maxHeartbeats 4000000
attribute [local irreducible] Go.Calls Byt Own Parts PA BA Bools OwnD OwnT
theorem backupBytes_good1 (W : World) (e0 : Int) (he : -9223372036854775808 ≤ e0 ∧ e0 ≤ 9223372036854775807) (x0 : Int) (hx : -9223372036854775808 ≤ x0 ∧ x0 ≤ 9223372036854775807) (n0 : Int) (hn : -9223372036854775808 ≤ n0 ∧ n0 ≤ 9223372036854775807) (v : Value) (l : List Int) (s : Ints W v l) (hb : l.length * 8 ≤ 140737488351232) (alive : Int) (ha : -9223372036854775808 ≤ alive ∧ alive ≤ 9223372036854775807) (how : Int) (hh : -9223372036854775808 ≤ how ∧ how ≤ 9223372036854775807) (e x : Nat) (he2 : e < 65536) (hx2 : x ≤ 16) (hEX : (how.tmod 7 = 6 ∧ (e : Int) = e0 ∧ (x : Int) = x0) ∨ (how.tmod 7 ≠ 6 ∧ (e : Int) = withinI e0 65536 ∧ (x : Int) = withinI x0 17)) (n : Nat) (hnn : (n : Int) = withinI n0 31) (hn28 : n ≤ 28) (h11 : how.tmod 11 = 10) (hn0 : ¬ 0 < n) :
    Calls Try.prog 6 #[.int .i64 e0, .int .i64 x0, .int .i64 n0, v, .int .i64 alive, .int .i64 how] W fun e W' => e = .returned (.bool true) ∧ Below W.heap.size W W' := by
  have HX := Lib.hid (And.intro he2 (And.intro hx2 hn28))
  have HT0 := Lib.hid (show (how.tmod 11 == 10) = true by simp [h11])
  have HTN := Lib.hid (And.intro (show decide (0 < (n : Int)) = false from decide_eq_false (by omega)) (And.intro (show (0 < (n : Int)) = False from eq_false (by omega)) hn0))
  clear h11 hn0 he2 hx2 hn28
  obtain ⟨j0, hj, hy0, hy1, hy2⟩ := info_parts uint8_info
  have hn31 : n < 31 := by have := withinI_lt n0 31 (by decide); omega
  have W1 := Lib.hid (fun w => within_any e0 65536 w (by decide) he.1 he.2)
  have W2 := Lib.hid (fun w => within_any x0 17 w (by decide) hx.1 hx.2)
  have W3 := Lib.hid (fun w => within_any n0 31 w (by decide) hn.1 hn.2)
  rw [← hnn] at W3
  have HE : Hid (-9223372036854775808 ≤ withinI e0 65536 ∧ withinI e0 65536 ≤ 9223372036854775807 ∧ -9223372036854775808 ≤ withinI x0 17 ∧ withinI x0 17 ≤ 9223372036854775807) := by
    have := withinI_ge e0 65536
    have := withinI_lt e0 65536 (by decide)
    have := withinI_ge x0 17
    have := withinI_lt x0 17 (by decide)
    show _ ∧ _ ∧ _ ∧ _
    omega
  have HEX := Lib.hid hEX
  have HE0 := Lib.hid (And.intro he (And.intro hx hh))
  have LV := Lib.hid (fun X => live_any alive 3 X (by decide) (by decide) ha)
  have HS := Lib.hid s
  have HN := Lib.hid hn31
  clear hEX s hb he hx hn ha hh hnn hn31
  go_enter Try.func6, Try.ntmps6
  go_wp2_with fail
  refine Calls.mono (bnew_any W 3 (by decide) (by decide)) ?_
  rintro r w1 ⟨rfl, ⟨lv, hs, I1⟩, b1⟩
  have HLT1 := Lib.hid I1.lts
  have hsz1 : W.heap.size < w1.heap.size := I1.lt
  have I1 := Lib.hid I1
  go_wp2_with fail
  refine Calls.mono (LV.out w1) ?_
  rintro r w2 ⟨vv, lvs, rfl, hlen, T2, b2⟩
  have B2 := belT b1 b2
  obtain ⟨t0, t1, t2, hlvs⟩ : ∃ a b c, lvs = [a, b, c] := by
    match lvs, hlen with
    | [a, b, c], _ => exact ⟨a, b, c, rfl⟩
  subst hlvs
  obtain ⟨a2, c2, rfl, _, _⟩ := T2.bools.shapeB
  have HT2 := Lib.hid T2
  have HSZ12 := Lib.hid b2.size
  have I2 := Lib.hid (I1.out.up b2)
  clear T2 b2 hlen
  go_upto_if 48 with (fail)
  go_cut [0, 1] from 48 to 52 (fun Ev Xv Y => Ev = .int .i64 (e : Int) ∧ Xv = .int .i64 (x : Int) ∧ w2 = Y)
  case first =>
    by_cases h7 : how.tmod 7 = 6
    · have h7a : (how.tmod 7 != 6) = false := by simp [h7]
      have hq : (e : Int) = e0 ∧ (x : Int) = x0 := by
        rcases HEX.out with ⟨_, h1, h2⟩ | ⟨h, _⟩
        · exact ⟨h1, h2⟩
        · exact absurd h7 h
      have HQ := Lib.hid hq
      clear hq h7
      go_wp2_with fail
      go_meet
      case rel => exact ⟨by rw [HQ.out.1], by rw [HQ.out.2], rfl⟩
    · have h7a : (how.tmod 7 != 6) = true := by simp [h7]
      have hq : (e : Int) = withinI e0 65536 ∧ (x : Int) = withinI x0 17 := by
        rcases HEX.out with ⟨h, _⟩ | ⟨_, h1, h2⟩
        · exact absurd h h7
        · exact ⟨h1, h2⟩
      have HQ := Lib.hid hq
      clear hq h7
      go_wp2_with fail
      refine Calls.mono (W1.out w2) ?_
      rintro r w3 ⟨rfl, rfl⟩
      go_wp2_with fail
      refine Calls.mono (W2.out w2) ?_
      rintro r w3 ⟨rfl, rfl⟩
      go_wp2
      go_meet
      case rel => exact ⟨by rw [HQ.out.1], by rw [HQ.out.2], rfl⟩
  obtain ⟨rfl, rfl, rfl⟩ := hcut
  clear W1 W2 HE
  obtain ⟨DL, hDL⟩ : ∃ DL, DL = sectL l n := ⟨_, rfl⟩
  have dl : DL.length = n := by rw [hDL]; exact sectL_len l n
  have d32 : ∀ p ∈ DL, p.length = 32 := by rw [hDL]; exact sectL_32 l n
  have d8 : ∀ p ∈ DL, ∀ y ∈ p, y < 256 := by rw [hDL]; exact sectL_byte l n
  have HDLN := Lib.hid dl
  have D32 := Lib.hid d32
  have D8 := Lib.hid d8
  have HDL := Lib.hid hDL
  have HSEC := Lib.hid (fun w h => sectors13_any v l n w h (by have := HN.out; omega))
  clear dl d32 d8 hDL
  go_wp2_with fail
  refine Calls.mono (W3.out w2) ?_
  rintro r w3 ⟨rfl, rfl⟩
  go_wp2_with fail
  refine Calls.mono (HSEC.out w2 (HS.out.up B2)) ?_
  rintro r w3 ⟨dv, rfl, D3, b3⟩
  rw [← HDL.out] at D3
  obtain ⟨ad, cd, rfl, _, _⟩ := D3.shape
  rw [HDLN.out]
  rw [HDLN.out] at D3
  have HB3 := Lib.hid b3
  have b3' := b3
  have HSZ2 : Hid (w1.heap.size ≤ w2.heap.size) := HSZ12
  have HBW3 : Hid (Below W.heap.size W w3) := Lib.hid (belT B2 b3)
  have hsz3 : w2.heap.size ≤ w3.heap.size := b3.size
  have HD3 := Lib.hid D3
  have HB2 := Lib.hid B2
  clear D3 b3 B2 HSEC W3
  have HTT : Hid (BA (ofB W.heap.size lv hs) w3 (.slice a2 3 c2) [t0, t1, t2]) := (HT2.out.up b3').ba HLT1.out
  have HI3 : Hid (IsBench w3 W.heap.size W.heap.size lv hs (B.fresh 3)) := I2.out.up b3'
  have h11a := HT0.out
  obtain ⟨hn0a, hn0b, hn0c⟩ := HTN.out
  have HPL : Hid (PA (ofB W.heap.size lv hs) w3 (.slice ad n cd) DL) := HD3.out.pa (fun y hy => by have := HLT1.out y hy; have := HSZ2.out; omega)
  obtain ⟨Cb, hC⟩ : ∃ Cb, Cb = B.putB (B.fresh 3) [t0, t1, t2] (headL e x DL :: DL) := ⟨_, rfl⟩
  have HPUT := bkput_yes w3 W.heap.size W.heap.size lv hs (B.fresh 3) _ [t0, t1, t2] e x _ DL HI3.out (B.Up.fresh 3) (by have := HSZ2.out; omega) HTT.out HPL.out HX.out.1 HX.out.2.1 (by rw [HDLN.out]; exact HX.out.2.2) D32.out (by rw [B.fresh_len]; decide) (B.fresh_p 3) (B.fresh_w 3)
  rw [← hC] at HPUT
  have HPUT := Lib.hid HPUT
  have HC := Lib.hid hC
  have hL3 := B.fresh_len 3
  have hn28 : DL.length ≤ 28 := by rw [HDLN.out]; exact HX.out.2.2
  obtain ⟨cu, cl, cw⟩ := B.put_up (lv := [t0, t1, t2]) (e := e) (x := x) (B.Up.fresh 3) D32.out D8.out hn28
  rw [← hC] at cu cl cw
  rw [hL3] at cl
  have hpe := B.put_pend (lv := [t0, t1, t2]) (e := e) (x := x) (B.Up.fresh 3) D32.out D8.out hn28 (fun d hd => by rw [List.eq_of_mem_replicate hd]; rfl)
  rw [← hC] at hpe
  have HPE := Lib.hid hpe
  have HCU := Lib.hid cu
  have HCL := Lib.hid cl
  have HN28 := Lib.hid hn28
  clear hC cu cl cw hpe hL3 hn28 b3'
  go_wp2_with fail
  refine Calls.mono HPUT.out ?_
  rintro r w4 ⟨rfl, hs4, I4, F4, q4⟩
  have B4 : Hid (Below W.heap.size W w4) := Lib.hid (Fr.below HBW3.out F4 (by have := HSZ2.out; omega) HI3.out.ges)
  have V4 := Lib.hid (HTT.out.step F4 q4)
  have D4 := Lib.hid (HPL.out.step F4 q4)
  have LT4 := Lib.hid I4.lts
  have I4 := Lib.hid I4
  have hsz4 : w3.heap.size ≤ w4.heap.size := F4.size
  clear F4 q4 HPUT HI3 HTT HPL HD3 I2 HT2
  go_upto_region 12 with (fail)
  go_cut [18] from 81 to 107 (fun c Y => c = .bool false ∧ w4 = Y)
  case first =>
    have h11a := HT0.out
    obtain ⟨hn0a, hn0b, hn0c⟩ := HTN.out
    have c0a : decide ((e : Int) < 0) = false := decide_eq_false (by omega)
    have c0b : ((e : Int) < 0) = False := eq_false (by omega)
    have c1a : decide (65535 < (e : Int)) = false := decide_eq_false (by have := HX.out; omega)
    have c1b : (65535 < (e : Int)) = False := eq_false (by have := HX.out; omega)
    have c2a : decide ((x : Int) < 0) = false := decide_eq_false (by omega)
    have c2b : ((x : Int) < 0) = False := eq_false (by omega)
    have c3a : decide (16 < (x : Int)) = false := decide_eq_false (by have := HX.out; omega)
    have c3b : (16 < (x : Int)) = False := eq_false (by have := HX.out; omega)
    have c4a : decide (28 < (n : Int)) = false := decide_eq_false (by have := HX.out; omega)
    have c4b : (28 < (n : Int)) = False := eq_false (by have := HX.out; omega)
    go_wp2_with fail
    go_meet
    case rel => exact ⟨rfl, rfl⟩
  obtain ⟨rfl, rfl⟩ := hcut
  have HPD := bpending_any w4 _ _ _ _ _ I4.out (by rw [HPE.out]; decide)
  rw [HPE.out] at HPD
  have HPD := Lib.hid HPD
  go_wp2_with fail
  refine Calls.mono HPD.out ?_
  rintro r w5 ⟨rfl, rfl⟩
  have kc := fun (w : World) (C : Array Value) (n c : Nat) => Lib.run_convert_bytes_const (P := Try.prog) w 48 5 C n c Try.underlying48 Try.underlying5
  have e0' : (0 : Int) ≤ (e : Int) := by omega
  have e1' : (e : Int) < 65536 := by have := HX.out; omega
  have x1' : (x : Int) ≤ 16 := by have := HX.out; omega
  have m1' : (n : Int) ≤ 28 := by have := HX.out; omega
  go_wp2_with (first
    | (at_builtin; go_loud (refine wpList_append_full rfl _ _ 48 rfl j0 Try.underlying48 hj hy0 hy1 hy2 _ _ _ [87, 66, 65, 75] rfl ((Byt.lit w4 _ _ [87, 66, 65, 75] rfl rfl rfl (by decide) (by decide)).up (belA1 (belR _))) _ _ _ _ [e / 256 % 256, e % 256, x % 256, n % 256] rfl (Byt.lit _ _ _ _ (by simp) rfl (by simp [u8v]; omega) (by intro x hx; simp at hx; omega) (by simp)) (by simp) (by simp) ?_); intro v3 w6 O3 g3x
       have b3 : Below w4.heap.size w4 w6 := belGN (belA2 (belR _)) g3x
       have O3 := own_mono O3 (show w4.heap.size ≤ _ by simp; omega)
       obtain ⟨l8, hl8⟩ : ∃ l8, l8 = [87, 66, 65, 75] ++ [e / 256 % 256, e % 256, x % 256, n % 256] := ⟨_, rfl⟩
       have L8 : l8.length = 8 := by rw [hl8]; rfl
       rw [← hl8] at O3
       obtain ⟨g3, k3, he3, hg31, hg32, hk31, hk32⟩ := O3.shape (by rw [L8]; decide)
       rw [L8] at he3 hk31
       subst he3
       have HL8 := Lib.hid hl8
       have L8' := Lib.hid L8
       clear hl8 L8 kc g3x)
    | (at_builtin; go_loud (refine wpList_append_zbytes_pl rfl _ _ 48 3 rfl j0 Try.underlying48 .i64 .i64 Try.underlying3 hj hy0 hy1 hy2 w4.heap.size _ _ rfl O3 24 rfl (by decide) (by rw [L8'.out]; decide) b3.size ?_); intro v4 w7 O4 g4 _
       have L32 : (l8 ++ List.replicate 24 0).length = 32 := by rw [List.length_append, L8'.out, List.length_replicate]
       obtain ⟨g4', k4, he4, hg41, hg42, _, _⟩ := O4.shape (by rw [L32]; decide)
       rw [L32] at he4
       subst he4
       have b7 : Below w4.heap.size w4 w7 := belG b3 g4 (fun g hg => by cases hg; exact hg31)))
  refine Calls.mono (sealed_any _ _ _ DL w7 O4.byt L32 (D4.out.up b7).parts (by rw [HDLN.out]; have := HX.out; omega)) ?_
  rintro r w8 ⟨hv, rfl, O8, b8⟩
  rw [show C.sealed (l8 ++ List.replicate 24 0) DL = headL e x DL by unfold headL; rw [HL8.out, ← HDLN.out]; rfl] at O8
  have B8 := Lib.hid (belT b7 b8)
  have HB8 := Lib.hid (O8.byt)
  have I8 := Lib.hid (I4.out.up B8.out)
  have D8' := Lib.hid (D4.out.up B8.out)
  have V8 := Lib.hid (V4.out.up B8.out)
  have LK : Hid (∀ d k, d < 3 → k ≤ n → B.lookB Cb d (6 + k) = if B.live1 [t0, t1, t2] d then (headL e x DL :: DL).getD k [] else List.replicate 32 0) := by
    show ∀ d k, _
    intro d k hd hk
    rw [HC.out, B.put_look (B.Up.fresh 3) D32.out D8.out HN28.out (by rw [B.fresh_len]; exact hd) (by have := HX.out; omega)]
    by_cases hl : B.live1 [t0, t1, t2] d = true
    · rw [if_pos ⟨hl, by omega, by rw [HDLN.out]; omega⟩, if_pos hl]
      congr 1
      omega
    · rw [if_neg (fun h => hl h.1), if_neg hl]
      exact B.fresh_look 3 d _ (by have := HX.out; omega)
  have HFA : Hid (∀ d, d < 3 → B.failB Cb d = false) := by
    show ∀ d, _
    intro d hd
    exact HCU.out.failB (by rw [HCL.out]; exact hd)
  clear b7 b8 O8 O4 O3 b3 g4 L32 hg41 hg42 hg31 hg32 hk31 hk32
  clear HPD e0' e1' x1' m1' D4 V4
  go_wp2
  go_loopw [22] (fun i X => ∃ d : Nat, d ≤ 3 ∧ i = .int .i64 d ∧ Below w8.heap.size w8 X) (fun i _ => 3 - (intOf i).toNat)
  case atStart => exact ⟨0, Nat.zero_le _, rfl, belR _⟩
  case round =>
    obtain ⟨d, hd3, rfl, BX⟩ := hrel
    by_cases hlt : d < 3
    · have hdI : (d : Int) < 3 := by omega
      have hd0 : (0 : Int) ≤ (d : Int) := by omega
      have hd1 : IntKind.i64.wrap ((d : Int) + 1) = ((d + 1 : Nat) : Int) := by rw [IntKind.wrap_i64]; omega
      have HLT := Lib.hid hlt
      clear hlt
      go_wp2
      go_loopw [23] (fun i Y => ∃ k : Nat, k ≤ n + 1 ∧ i = .int .i64 k ∧ Below w8.heap.size w8 Y) (fun i _ => n + 1 - (intOf i).toNat)
      case atStart => exact ⟨0, Nat.zero_le _, rfl, BX⟩
      case round =>
        obtain ⟨k, hk3, rfl, BY⟩ := hrel
        by_cases hkn : k < n + 1
        · have hkI : (k : Int) ≤ (n : Int) := by omega
          have hkI' : decide ((k : Int) ≤ (n : Int)) = true := decide_eq_true hkI
          have hk0 : (0 : Int) ≤ (k : Int) := by omega
          have hk1 : IntKind.i64.wrap ((k : Int) + 1) = ((k + 1 : Nat) : Int) := by rw [IntKind.wrap_i64]; have := HX.out; omega
          have hk6 : IntKind.i64.wrap (6 + (k : Int)) = ((6 + k : Nat) : Int) := by rw [IntKind.wrap_i64]; have := HX.out; omega
          have HKN := Lib.hid hkn
          obtain ⟨L1, hL1⟩ : ∃ L1, L1 = (headL e x DL :: DL).getD k [] := ⟨_, rfl⟩
          have HL1 := Lib.hid hL1
          clear hkn hL1
          go_upto_if 168 with (fail)
          go_cut [24] from 168 to 173 (fun wv Z => Hid (Byt wr wv L1) ∧ wr = Z)
          case first =>
            by_cases hz : 0 < k
            · have hza : decide (0 < (k : Int)) = true := decide_eq_true (by omega)
              have hzb : (0 < (k : Int)) = True := eq_true (by omega)
              obtain ⟨q, hq⟩ : ∃ q, k = q + 1 := ⟨k - 1, by omega⟩
              have hq1 : IntKind.i64.wrap ((k : Int) - 1) = (q : Int) := by rw [IntKind.wrap_i64]; have := HX.out; have := HKN.out; omega
              have hq2 : (q : Int) < (n : Int) := by have := HKN.out; omega
              have hq3 : (0 : Int) ≤ (q : Int) := by omega
              obtain ⟨bb, ob, c, p, hbo, hcc, hp, oc, _⟩ := (D8'.out.up BY).get (k := q) (by rw [HDLN.out]; have := HKN.out; omega)
              have HR : Hid (Byt wr c L1) := by
                rw [HL1.out, hq]
                have e2 : (headL e x DL :: DL).getD (q + 1) [] = p := by
                  show DL.getD q [] = p
                  rw [List.getD_eq_getElem?_getD, hp.out]; rfl
                rw [e2]
                exact Lib.hid oc
              have HADD := Lib.hid hbo
              subst hbo
              clear oc hp hq HL1
              (go_wp2_with fail) <;> (go_meet; case rel => exact ⟨HR, rfl⟩)
            · have hza : decide (0 < (k : Int)) = false := decide_eq_false (by omega)
              have hzb : (0 < (k : Int)) = False := eq_false (by omega)
              have HR : Hid (Byt wr hv L1) := by
                rw [HL1.out, show k = 0 by omega]
                exact Lib.hid (HB8.out.up BY)
              have HZ := Lib.hid hz
              clear hz HL1
              go_wp2_with fail
              go_meet
              case rel => exact ⟨HR, rfl⟩
          obtain ⟨HW1, rfl⟩ := hcut
          have HVS := Lib.hid (V8.out.up BY).bools
          obtain ⟨bv, ov, tv, hbv, hcv, htv⟩ := (V8.out.up BY).bools.cellAt (k := d) (by have := HLT.out; show d < 3; exact this)
          have HBV := Lib.hid hbv
          subst hbv
          have htv' : B.live1 [t0, t1, t2] d = tv := by unfold B.live1; rw [List.getD_eq_getElem?_getD, htv.out]; rfl
          have HTV := Lib.hid htv'
          clear htv htv'
          go_upto_if 178 with (fail)
          obtain ⟨L2, hL2⟩ : ∃ L2, L2 = if tv = true then L1 else List.replicate 32 0 := ⟨_, rfl⟩
          have HL2 := Lib.hid hL2
          clear hL2
          go_cut [24] from 178 to 179 (fun wv Z => Hid (Byt Z wv L2) ∧ Below w8.heap.size w8 Z)
          case first =>
            cases tv with
            | true =>
              go_wp2_with fail
              go_meet
              case rel => exact ⟨by rw [HL2.out]; simpa using HW1, BY⟩
            | false =>
              go_wp2_with (at_make; go_loud (refine wpList_make_bytes rfl _ _ 48 rfl j0 Try.underlying48 hj hy0 hy1 hy2 .i64 .i64 32 32 32 rfl rfl rfl rfl (by decide) ?_); intro w9 O9 b9)
              go_meet
              case rel => exact ⟨by rw [HL2.out]; simpa using Lib.hid O9.byt, belT BY b9⟩
          obtain ⟨HW2, BZ⟩ := hcut
          have HRD := bread_lv wc _ _ _ _ Cb d (6 + k) (I8.out.up BZ) HCU.out.lv (by rw [HCL.out]; exact HLT.out) (by have := HX.out; have := HKN.out; omega)
          rw [HFA.out d HLT.out, LK.out d k HLT.out (by have := HKN.out; omega), HTV.out, ← HL1.out] at HRD
          have e3 : (if tv = true then L1 else List.replicate 32 0) = L2 := HL2.out.symm
          simp only [Bool.false_eq_true, if_false] at HRD
          rw [e3] at HRD
          have HRD := Lib.hid HRD
          clear e3
          go_wp2_with fail
          refine Calls.mono HRD.out ?_
          rintro r wd ⟨rv, rfl, ORD, bd⟩
          have HSM := same_any rv _ L2 L2 wd ORD.byt (HW2.out.up bd)
          rw [decide_eq_true rfl] at HSM
          have HSM := Lib.hid HSM
          have BD := belT BZ bd
          clear ORD bd
          go_wp2_with fail
          refine Calls.mono HSM.out ?_
          rintro r wf ⟨rfl, df⟩
          have BF := BD.trans (df.below _)
          go_wp2
          go_roundw
          case rel =>
            exact ⟨k + 1, by have := HKN.out; omega, by go_num, BF⟩
          case measure => have := HKN.out; simp [intOf]; omega
        · have hke : k = n + 1 := by omega
          have hkI' : decide ((k : Int) ≤ (n : Int)) = false := decide_eq_false (by omega)
          have hkI2 : ((k : Int) ≤ (n : Int)) = False := eq_false (by omega)
          have HKE := Lib.hid hke
          clear hke hkn
          go_wp2
          go_roundw
          case rel =>
            exact ⟨d + 1, HLT.out, by go_num, BY⟩
          case measure => have := HLT.out; simp [intOf]; omega
    · have hde : d = 3 := by omega
      subst hde
      obtain ⟨bv, ov, x0', hbv, hcv0, htv0⟩ := (V8.out.up BX).bools.cellAt (k := 0) (by show 0 < 3; decide)
      subst hbv
      obtain ⟨bv1, ov1, x1', hbv1, hcv1, htv1⟩ := (V8.out.up BX).bools.cellAt (k := 1) (by show 1 < 3; decide)
      obtain ⟨bv2, ov2, x2', hbv2, hcv2, htv2⟩ := (V8.out.up BX).bools.cellAt (k := 2) (by show 2 < 3; decide)
      cases hbv1
      cases hbv2
      rw [Nat.add_zero] at hcv0
      have q0 := htv0.out
      have q1 := htv1.out
      have q2 := htv2.out
      cases q0
      cases q1
      cases q2
      obtain ⟨av, hav⟩ : ∃ av, av = (t0 || (t1 || t2)) := ⟨_, rfl⟩
      have HAV := Lib.hid hav
      have V9 := Lib.hid (V8.out.up BX)
      have D9 := Lib.hid (D8'.out.up BX)
      have I9 := Lib.hid (I8.out.up BX)
      clear hav htv0 htv1 htv2
      go_upto_region 34 with (fail)
      go_cut [27] from 196 to 208 (fun c Y => c = .bool av ∧ wr = Y)
      case first =>
        have hav := HAV.out
        clear HAV LK HC
        cases t0 with
        | true =>
          simp at hav
          subst hav
          go_wp2_with fail
          go_meet
          case rel => exact ⟨rfl, rfl⟩
        | false =>
          cases t1 with
          | true =>
            simp at hav
            subst hav
            go_wp2_with fail
            go_meet
            case rel => exact ⟨rfl, rfl⟩
          | false =>
            cases t2 with
            | true =>
              simp at hav
              subst hav
              go_wp2_with fail
              go_meet
              case rel => exact ⟨rfl, rfl⟩
            | false =>
              simp at hav
              subst hav
              go_wp2_with fail
              go_meet
              case rel => exact ⟨rfl, rfl⟩
      obtain ⟨rfl, rfl⟩ := hcut
      clear hcv0 hcv1 hcv2
      have G1 : Hid ((B.getO Cb [t0, t1, t2] e x Cb.ds.length).isSome = av ∧ ∀ i, B.getO Cb [t0, t1, t2] e x Cb.ds.length = some i → B.ofL Cb i = DL) := by
        show _ ∧ _
        rw [HCL.out, HC.out]
        have hav := HAV.out
        have Y := fun (i : Nat) (a : i < 3) (b : B.live1 [t0, t1, t2] i = true) (c : ∀ j, j < i → B.live1 [t0, t1, t2] j = false) => B.put_fresh_yes D32.out D8.out HN28.out HX.out.1 HX.out.2.1 a b c
        have N := fun c => B.put_fresh_no (lv := [t0, t1, t2]) (e := e) (x := x) (n := 3) (data := DL) c
        clear HAV LK HC V8 V9
        cases t0 with
        | true =>
          have := Y 0 (by decide) rfl (fun j hj => by omega)
          exact ⟨by rw [this.1, hav]; rfl, fun i hi => by rw [this.1] at hi; cases hi; exact this.2⟩
        | false =>
          cases t1 with
          | true =>
            have := Y 1 (by decide) rfl (fun j hj => by have : j = 0 := by omega
                                                        subst this; rfl)
            exact ⟨by rw [this.1, hav]; rfl, fun i hi => by rw [this.1] at hi; cases hi; exact this.2⟩
          | false =>
            cases t2 with
            | true =>
              have := Y 2 (by decide) rfl (fun j hj => by have : j = 0 ∨ j = 1 := by omega
                                                          rcases this with rfl | rfl <;> rfl)
              exact ⟨by rw [this.1, hav]; rfl, fun i hi => by rw [this.1] at hi; cases hi; exact this.2⟩
            | false =>
              have := N (fun j hj => by have : j = 0 ∨ j = 1 ∨ j = 2 := by omega
                                        rcases this with rfl | rfl | rfl <;> rfl)
              exact ⟨by rw [this, hav]; rfl, fun i hi => by rw [this] at hi; cases hi⟩
      have G2 : Hid (∀ e' x' : Nat, e' < 65536 → x' ≤ 16 → ¬ (e = e' ∧ x = x') → B.getO Cb [t0, t1, t2] e' x' Cb.ds.length = none) := by
        show ∀ e' x' : Nat, _
        intro e' x' he' hx' hne
        rw [HCL.out, HC.out]
        exact B.put_fresh_other D32.out D8.out HN28.out HX.out.1 HX.out.2.1 he' hx' hne
      obtain ⟨f1, hf1⟩ : ∃ f1, f1 = e + 1 := ⟨_, rfl⟩
      obtain ⟨f2, hf2⟩ : ∃ f2, f2 = f1 % 65536 := ⟨_, rfl⟩
      obtain ⟨y1, hy1'⟩ : ∃ y1, y1 = x + 1 := ⟨_, rfl⟩
      obtain ⟨y2, hy2'⟩ : ∃ y2, y2 = y1 % 17 := ⟨_, rfl⟩
      have hW1 : IntKind.i64.wrap ((e : Int) + 1) = (f1 : Int) := by rw [IntKind.wrap_i64]; have := HX.out; omega
      have hW2 : ((f1 : Int)).tmod 65536 = (f2 : Int) := by rw [hf2]; rfl
      have hW3 : IntKind.i64.wrap ((x : Int) + 1) = (y1 : Int) := by rw [IntKind.wrap_i64]; have := HX.out; omega
      have hW4 : ((y1 : Int)).tmod 17 = (y2 : Int) := by rw [hy2']; rfl
      have HFY := Lib.hid (show f2 < 65536 ∧ y2 ≤ 16 ∧ f2 ≠ e ∧ y2 ≠ x by have := HX.out; omega)
      clear hf1 hf2 hy1' hy2'
      have HG1 := bkget_any wr _ _ _ _ _ _ _ e x I9.out HCU.out.lv (by rw [HCL.out]; decide) V9.out.bools HX.out.1 HX.out.2.1
      rw [G1.out.1] at HG1
      have HG1 := Lib.hid HG1
      go_wp2_with fail
      refine Calls.mono HG1.out ?_
      rintro r wa ⟨xv, rfl, X6, ba⟩
      have BA1 := Lib.hid ba
      have X6 := Lib.hid X6
      have HG2 := bkget_any wa _ _ _ _ _ _ _ f2 x (I9.out.up ba) HCU.out.lv (by rw [HCL.out]; decide) (V9.out.up ba).bools HFY.out.1 HX.out.2.1
      rw [G2.out f2 x HFY.out.1 HX.out.2.1 (fun h => HFY.out.2.2.1 h.1.symm)] at HG2
      have HG2 := Lib.hid HG2
      clear ba
      go_wp2_with fail
      refine Calls.mono HG2.out ?_
      rintro r wb ⟨yv, rfl, _, bb⟩
      have BB := Lib.hid (belT BA1.out bb)
      have BBX := Lib.hid bb
      have HG3 := bkget_any wb _ _ _ _ _ _ _ e y2 (I9.out.up BB.out) HCU.out.lv (by rw [HCL.out]; decide) (V9.out.up BB.out).bools HX.out.1 HFY.out.2.1
      rw [G2.out e y2 HX.out.1 HFY.out.2.1 (fun h => HFY.out.2.2.2 h.2.symm)] at HG3
      have HG3 := Lib.hid HG3
      clear bb
      go_wp2_with fail
      refine Calls.mono HG3.out ?_
      rintro r wc ⟨zv, rfl, _, bc⟩
      have BC := Lib.hid (belT BB.out bc)
      have BBY := Lib.hid (belT BBX.out bc)
      clear bc
      cases av with
      | true =>
        obtain ⟨i, hi⟩ := Option.isSome_iff_exists.1 G1.out.1
        have X7 := X6.out i hi
        rw [G1.out.2 i hi] at X7
        have HSA := same14_any _ _ DL DL wc (X7.up BBY.out).parts (D9.out.up BC.out).parts
        rw [decide_eq_true rfl] at HSA
        have HSA := Lib.hid HSA
        clear hi X7
        go_wp2_with fail
        refine Calls.mono HSA.out ?_
        rintro r we ⟨rfl, be⟩
        go_wp2_with fail
        refine Calls.mono (wakes19_any we) ?_
        rintro r wg ⟨rfl, bg⟩
        go_wp2
        go_ret
        exact ⟨rfl, belT B4.out (belT B8.out (belT BX (belT BC.out (belT be bg))))⟩
      | false =>
        go_wp2_with fail
        refine Calls.mono (wakes19_any _) ?_
        rintro r wg ⟨rfl, bg⟩
        go_wp2
        go_ret
        exact ⟨rfl, belT B4.out (belT B8.out (belT BX (belT BC.out bg)))⟩
end Go.Proofs.Ytenjpldinnbcbaa
