/- The law BackupNewest (chapter 19). True at every input. -/
import Derived.Test.YtenjpldinnbcbaaBkX
import Derived.Deep.CutRange
namespace Go.Proofs.Ytenjpldinnbcbaa
open Go.RowKit
set_option linter.unusedVariables false
set_option linter.unusedSimpArgs false
set_option maxRecDepth 100000
set_option maxHeartbeats 4000000
attribute [local irreducible] Go.Calls Byt Own Parts PA BA Bools OwnD OwnT Ints
theorem backupNewest_law (W : World) (v : Value) (l : List Int) (s : Ints W v l) (hb : l.length * 8 ≤ 140737488351232) (u : Value) (m : List Int) (s2 : Ints W u m) (hb2 : m.length * 8 ≤ 140737488351232) :
    Calls Try.prog 3 #[v, u] W fun e W' => e = .returned (.bool true) ∧ Below W.heap.size W W' := by
  have HS := Lib.hid s
  have HS2 := Lib.hid s2
  obtain ⟨al, cl, rfl, hl1, hl2⟩ := s.shapeI
  obtain ⟨am, cm, rfl, hm1, hm2⟩ := s2.shapeI
  obtain ⟨nl, hnl⟩ : ∃ nl, nl = l.length := ⟨_, rfl⟩
  obtain ⟨nm, hnm⟩ : ∃ nm, nm = m.length := ⟨_, rfl⟩
  rw [← hnl] at HS hb ⊢
  rw [← hnm] at HS2 hb2 ⊢
  have HNL := Lib.hid hnl
  have HNM := Lib.hid hnm
  have HNB := Lib.hid (And.intro hb hb2)
  clear s s2 hl1 hl2 hm1 hm2 hnl hnm hb hb2
  go_enter Try.func3, Try.ntmps3
  go_wp2_with fail
  refine Calls.mono (bnew_any W 3 (by decide) (by decide)) ?_
  rintro r w1 ⟨rfl, ⟨lv, hs, I1⟩, b1⟩
  have HLT1 := Lib.hid I1.lts
  have hsz1 : W.heap.size < w1.heap.size := I1.lt
  have I1 := Lib.hid I1
  have HT0 : Hid (BA (ofB W.heap.size lv hs) ((w1.alloc (.cells #[.int .i64 0, .int .i64 0, .int .i64 0] 27)).alloc (.cells #[.bool true, .bool true, .bool true] 4)) (.slice (some ⟨w1.heap.size + 1, 0, none⟩) 3 3) [true, true, true]) :=
    Lib.hid ((OwnT.lit (w1.alloc (.cells #[.int .i64 0, .int .i64 0, .int .i64 0] 27)) #[.bool true, .bool true, .bool true] [true, true, true] (n := 3) (g := w1.heap.size + 1) (by simp) rfl rfl (by decide)).ba (fun y hy => by have := HLT1.out y hy; simp; omega))
  have HM0 : Hid (NJ W w1.heap.size (w1.heap.size + 1) (w1.heap.size + 2) lv l 0 ((w1.alloc (.cells #[.int .i64 0, .int .i64 0, .int .i64 0] 27)).alloc (.cells #[.bool true, .bool true, .bool true] 4))) := by
    refine ⟨hs, B.fresh 3, fun _ => 0, I1.out.up (belA2 (belR _)), NI.zero l, ?_, HT0.out, fun h => ?_, belA2 b1, by simp⟩
    · exact (Box.new w1 [.int .i64 0, .int .i64 0, .int .i64 0] 27).fr (Fr.alloc (S := fun _ => False) _ _) id
    · have := HLT1.out _ h; omega
  go_wp2
  go_loopw [9] (fun iv X => ∃ i : Nat, i ≤ 10 ∧ iv = .int .i64 i ∧ Hid (NJ W w1.heap.size (w1.heap.size + 1) (w1.heap.size + 2) lv l i X)) (fun iv _ => 10 - (intOf iv).toNat)
  case atStart => exact ⟨0, Nat.zero_le _, rfl, HM0⟩
  case round =>
    obtain ⟨i, hi10, rfl, HM⟩ := hrel
    have HI10 := Lib.hid hi10
    clear hi10
    go_upto_region 7 with (fail)
    go_cut [36] from 29 to 35 (fun bv X => bv = .bool (decide (i < nm ∧ i < 10)) ∧ wr = X)
    case first =>
      by_cases c1 : i < nm
      · have i1 : decide ((i : Int) < (nm : Int)) = true := decide_eq_true (by omega)
        have i2 : ((i : Int) < (nm : Int)) = True := eq_true (by omega)
        by_cases c2 : i < 10
        · have i3 : decide ((i : Int) < 10) = true := decide_eq_true (by omega)
          have i4 : ((i : Int) < 10) = True := eq_true (by omega)
          go_wp2_with fail
          go_meet
          case rel => exact ⟨congrArg Value.bool (decide_eq_true (p := i < nm ∧ i < 10) ⟨c1, c2⟩).symm, rfl⟩
        · have i3 : decide ((i : Int) < 10) = false := decide_eq_false (by omega)
          have i4 : ((i : Int) < 10) = False := eq_false (by omega)
          go_wp2_with fail
          go_meet
          case rel => exact ⟨congrArg Value.bool (decide_eq_false (p := i < nm ∧ i < 10) (fun h => c2 h.2)).symm, rfl⟩
      · have i1 : decide ((i : Int) < (nm : Int)) = false := decide_eq_false (by omega)
        have i2 : ((i : Int) < (nm : Int)) = False := eq_false (by omega)
        go_wp2_with fail
        go_meet
        case rel => exact ⟨congrArg Value.bool (decide_eq_false (p := i < nm ∧ i < 10) (fun h => c1 h.1)).symm, rfl⟩
    obtain ⟨rfl, rfl⟩ := hcut
    by_cases hgo : i < nm ∧ i < 10
    · rw [decide_eq_true hgo]
      have i1 : decide ((i : Int) < (nm : Int)) = true := decide_eq_true (by omega)
      have i2 : (i : Int) < (nm : Int) := by omega
      have i3 : decide ((i : Int) < 10) = true := decide_eq_true (by omega)
      have i4 : (i : Int) < 10 := by omega
      have i5 : i < nm := hgo.1
      have i6 : i < 10 := hgo.2
      have i0 : (0 : Int) ≤ (i : Int) := by omega
      have hi1 : IntKind.i64.wrap ((i : Int) + 1) = ((i + 1 : Nat) : Int) := by rw [IntKind.wrap_i64]; omega
      obtain ⟨hs1, c, h, I1', N1, X1, A1, G1, BW, hX⟩ := HM.out
      obtain ⟨bb, ob, ai, hbo, hcc, hai, har⟩ := (HS2.out.up BW).cellAt (k := i) (by rw [← HNM.out]; exact i5)
      subst hbo
      have LV := Lib.hid (fun X => live_any ai 3 X (by decide) (by decide) har)
      clear hgo hai har HM
      go_wp2_with fail
      refine Calls.mono (LV.out wr) ?_
      rintro r w2 ⟨vv, lvs, rfl, hlen, T2, b2⟩
      obtain ⟨a2, c2, rfl, _, _⟩ := T2.bools.shapeB
      rw [hlen]
      rw [hlen] at T2
      obtain ⟨q, hq, hq3⟩ : ∃ q : Nat, i % 3 = q ∧ q < 3 := ⟨i % 3, rfl, Nat.mod_lt _ (by decide)⟩
      have hq1 : ((i : Int)).tmod 3 = (q : Int) := by rw [← hq]; rfl
      have hq2 : IntKind.i64.wrap (1 + (q : Int)) = ((1 + q : Nat) : Int) := by rw [IntKind.wrap_i64]; omega
      have HQ := Lib.hid (And.intro hq hq3)
      have B2 := belT BW b2
      have HN1 := Lib.hid N1
      have HI2 := Lib.hid (I1'.up b2)
      have HA2 := Lib.hid (A1.up b2)
      have hLT2 := (I1'.up b2).lts
      have HX2 : Hid (Box w2 w1.heap.size (hCells h)) := X1.fr (Fr.of_below (S := fun _ => False) b2) id
      have HT2 : Hid (BA (ofB W.heap.size lv hs1) w2 (.slice a2 3 c2) lvs) := T2.ba (fun y hy => I1'.lts y hy)
      have hsz2 := b2.size
      have HPUT : Hid (∀ w3 (dv : Value), Below w2.heap.size w2 w3 → OwnD w3 w2.heap.size dv (dataN l i) (fun _ => False) → Calls Try.prog 17 #[.pointer (some ⟨W.heap.size, 0, none⟩), .slice a2 3 c2, .int .i64 1, .int .i64 i, dv] w3 fun r w' => r = .returned (.int .i64 0) ∧ Hid (NP W w1.heap.size (w1.heap.size + 1) (w1.heap.size + 2) lv l i h (.slice a2 3 c2) lvs w')) := by
        show ∀ w3 dv, _
        intro w3 dv b3 D3
        have := bkput_yes w3 W.heap.size W.heap.size lv hs1 c _ lvs 1 i dv (dataN l i) (HI2.out.up b3) HN1.out.up (by have := b3.size; omega) (HT2.out.up b3) (D3.pa hLT2) (by decide) (by omega) (by rw [dataN_len]; omega) (dataN_32 l i) (by rw [HN1.out.len]; decide) (fun d hd => by have := HN1.out.p d hd; omega) (by have := HN1.out.w; omega)
        refine Calls.mono this ?_
        rintro r w4 ⟨rfl, hs4, I4, F4, q4⟩
        have hg3 : ¬ ofB W.heap.size lv hs4 w1.heap.size := fun h => by
          rcases q4 _ h with h | h
          · exact G1 h
          · have := b3.size; omega
        refine ⟨rfl, Lib.hid ⟨hs4, _, I4, HN1.out.step (by omega) lvs (by omega) (midH_all hlen), (HX2.out.fr (Fr.of_below (S := fun _ => False) b3) id).fr F4 G1, (HA2.out.up b3).step F4 q4, (HT2.out.up b3).step F4 q4, hg3, ?_, ?_⟩⟩
        · exact Fr.below (belT B2 b3) F4 (by have := b3.size; omega) (HI2.out.up b3).ges
        · have := b3.size; have := F4.size; omega
      have HIM := Lib.hid (And.intro T2.ge hX)
      clear hq hq3 N1 I1' X1 A1 T2 hLT2
      go_upto_region 10 with (fail)
      go_cut [58] from 44 to 57 (fun ev X => ev = .bool false ∧ Hid (NP W w1.heap.size (w1.heap.size + 1) (w1.heap.size + 2) lv l i h (.slice a2 3 c2) lvs X))
      case first =>
        have HLN := HNL.out
        have HSI := Lib.hid (HS.out.up BW)
        by_cases hA : nl < i
        · by_cases hB : cl = nl
          · subst hB
            have HI : Hid (Ints w2 (.slice al 0 0) (l.drop (min i l.length))) := by
              have HSI' := HSI.out
              show Ints _ _ _
              rw [show min i l.length = cl by omega]
              have := ((HSI'.tail (Nat.le_refl _)).1 rfl).up b2
              rw [Nat.sub_self] at this
              exact this
            clear HLN HSI
            go_wp2_with fail
            refine Calls.mono (sectors13_any _ _ (1 + q) w2 HI.out (by have := HQ.out; omega)) ?_
            rintro r w3 ⟨dv, rfl, D3, b3⟩
            rw [show sectL (l.drop (min i l.length)) (1 + q) = dataN l i by unfold dataN; rw [HQ.out.1]] at D3
            obtain ⟨ad, cd, rfl, _, _⟩ := D3.shape
            have HP := HPUT.out w3 _ b3 D3
            clear D3
            go_wp2_with fail
            refine Calls.mono HP ?_
            rintro r w4 ⟨rfl, HST⟩
            go_wp2
            go_meet
            case rel => exact ⟨rfl, HST⟩
          · have hB' : ¬ nl = cl := fun h => hB h.symm
            have HI : Hid (Ints w2 (.slice (Option.map (fun x => x.add nl) al) 0 (cl - nl)) (l.drop (min i l.length))) := by
              show Ints _ _ _
              rw [show min i l.length = nl by omega]
              have := ((HSI.out.tail (Nat.le_refl _)).2 hB').up b2
              rw [Nat.sub_self] at this
              exact this
            clear HLN HSI
            go_wp2_with fail
            refine Calls.mono (sectors13_any _ _ (1 + q) w2 HI.out (by have := HQ.out; omega)) ?_
            rintro r w3 ⟨dv, rfl, D3, b3⟩
            rw [show sectL (l.drop (min i l.length)) (1 + q) = dataN l i by unfold dataN; rw [HQ.out.1]] at D3
            obtain ⟨ad, cd, rfl, _, _⟩ := D3.shape
            have HP := HPUT.out w3 _ b3 D3
            clear D3
            go_wp2_with fail
            refine Calls.mono HP ?_
            rintro r w4 ⟨rfl, HST⟩
            go_wp2
            go_meet
            case rel => exact ⟨rfl, HST⟩
        · by_cases hB : cl = i
          · have hle : i ≤ nl := by omega
            have hB2 := hB.symm
            subst hB2
            have HI : Hid (Ints w2 (.slice al (nl - i) 0) (l.drop (min i l.length))) := by
              show Ints _ _ _
              rw [show min i l.length = i by omega]
              exact ((HSI.out.tail hle).1 rfl).up b2
            clear HLN HSI
            go_wp2_with fail
            refine Calls.mono (sectors13_any _ _ (1 + q) w2 HI.out (by have := HQ.out; omega)) ?_
            rintro r w3 ⟨dv, rfl, D3, b3⟩
            rw [show sectL (l.drop (min i l.length)) (1 + q) = dataN l i by unfold dataN; rw [HQ.out.1]] at D3
            obtain ⟨ad, cd, rfl, _, _⟩ := D3.shape
            have HP := HPUT.out w3 _ b3 D3
            clear D3
            go_wp2_with fail
            refine Calls.mono HP ?_
            rintro r w4 ⟨rfl, HST⟩
            go_wp2
            go_meet
            case rel => exact ⟨rfl, HST⟩
          · have hB' : ¬ i = cl := fun h => hB h.symm
            have hle : i ≤ nl := by omega
            have HI : Hid (Ints w2 (.slice (Option.map (fun x => x.add i) al) (nl - i) (cl - i)) (l.drop (min i l.length))) := by
              show Ints _ _ _
              rw [show min i l.length = i by omega]
              exact ((HSI.out.tail hle).2 hB').up b2
            clear HLN HSI
            go_wp2_with fail
            refine Calls.mono (sectors13_any _ _ (1 + q) w2 HI.out (by have := HQ.out; omega)) ?_
            rintro r w3 ⟨dv, rfl, D3, b3⟩
            rw [show sectL (l.drop (min i l.length)) (1 + q) = dataN l i by unfold dataN; rw [HQ.out.1]] at D3
            obtain ⟨ad, cd, rfl, _, _⟩ := D3.shape
            have HP := HPUT.out w3 _ b3 D3
            clear D3
            go_wp2_with fail
            refine Calls.mono HP ?_
            rintro r w4 ⟨rfl, HST⟩
            go_wp2
            go_meet
            case rel => exact ⟨rfl, HST⟩
      obtain ⟨rfl, HST⟩ := hcut
      obtain ⟨hs5, c5, I5, N5, X5, A5, V5, G5, B5, hs5z⟩ := HST.out
      have I5 := Lib.hid I5
      have N5 := Lib.hid N5
      have A5 := Lib.hid A5
      have G5 := Lib.hid G5
      have V5 := Lib.hid V5
      have X5 := Lib.hid X5
      have HS5 := Lib.hid (And.intro B5 hs5z)
      have HVB : Hid (∀ y, (Value.slice a2 3 c2).ownBlock = some y → ¬ y = w1.heap.size) := Lib.hid (fun y hy e => by have := HIM.out.1 y hy; have := HIM.out.2; omega)
      clear HST B5 HPUT HI2 HA2 HX2 HT2
      go_wp2
      go_loopw [61] (fun jv Y => ∃ j : Nat, j ≤ 3 ∧ jv = .int .i64 j ∧ Hid (Fr (fun y => y = w1.heap.size) wc Y ∧ Box Y w1.heap.size (hCells (midH h lvs i j)))) (fun jv _ => 3 - (intOf jv).toNat)
      case atStart => exact ⟨0, Nat.zero_le _, rfl, Lib.hid ⟨Fr.of_below (belR _), by rw [midH_zero]; exact X5.out⟩⟩
      case round =>
        obtain ⟨j, hj3, rfl, HJ⟩ := hrel
        by_cases hlt : j < 3
        · have j1 : (j : Int) < 3 := by omega
          have j0' : (0 : Int) ≤ (j : Int) := by omega
          have j2 : IntKind.i64.wrap ((j : Int) + 1) = ((j + 1 : Nat) : Int) := by rw [IntKind.wrap_i64]; omega
          have HLT := Lib.hid hlt
          obtain ⟨FJ, BJ⟩ := HJ.out
          have BO := (V5.out.frS FJ HVB.out).bools
          obtain ⟨bv, ov, tv, hbv, hcv, htv⟩ := BO.cellAt (k := j) (by omega)
          have HBV := Lib.hid hbv
          subst hbv
          have htv' : B.live1 lvs j = tv := by unfold B.live1; rw [List.getD_eq_getElem?_getD, htv.out]; rfl
          have HTV := Lib.hid htv'
          have hcl : j < (hCells (midH h lvs i j)).length := hlt
          have hcx : wr.cell? ⟨w1.heap.size, j, none⟩ = (hCells (midH h lvs i j))[j]? := by
            have := BJ.range j _ (List.getElem?_eq_getElem hcl)
            rw [Nat.zero_add] at this
            rw [this, List.getElem?_eq_getElem hcl]
          obtain ⟨oldv, hold⟩ : ∃ oldv, (hCells (midH h lvs i j))[j]? = some oldv := ⟨_, List.getElem?_eq_getElem hcl⟩
          rw [hold] at hcx
          have hfx : wr.frozen? ⟨w1.heap.size, j, none⟩ = false := there_frozen BJ.there hcl
          clear BO htv htv' hlt hcl hold FJ BJ
          cases tv with
          | true =>
            have HNXT : Hid (Fr (fun y => y = w1.heap.size) wc (wr.setCell ⟨w1.heap.size, j, none⟩ (.int .i64 ((i + 1 : Nat) : Int))) ∧ Box (wr.setCell ⟨w1.heap.size, j, none⟩ (.int .i64 ((i + 1 : Nat) : Int))) w1.heap.size (hCells (midH h lvs i (j + 1)))) := by
              obtain ⟨FJ, BJ⟩ := HJ.out
              refine ⟨FJ.trans ((Fr.cell ⟨w1.heap.size, j, none⟩ _).mono (fun _ h => h)), ?_⟩
              rw [midH_yes HTV.out HLT.out]
              exact BJ.set j _
            clear HJ
            go_wp2
            go_roundw
            case rel => exact ⟨j + 1, HLT.out, by go_num, HNXT⟩
            case measure => have := HLT.out; simp [intOf]; omega
          | false =>
            have HNXT : Hid (Fr (fun y => y = w1.heap.size) wc wr ∧ Box wr w1.heap.size (hCells (midH h lvs i (j + 1)))) := by
              rw [midH_no HTV.out]
              exact HJ
            clear HJ
            go_wp2
            go_roundw
            case rel => exact ⟨j + 1, HLT.out, by go_num, HNXT⟩
            case measure => have := HLT.out; simp [intOf]; omega
        · have hje : j = 3 := by omega
          subst hje
          have HNXT : Hid (NJ W w1.heap.size (w1.heap.size + 1) (w1.heap.size + 2) lv l (i + 1) wr) := by
            obtain ⟨FJ, BJ⟩ := HJ.out
            refine ⟨hs5, c5, midH h lvs i 3, I5.out.fr FJ (fun y hy e => G5.out (by rw [← e]; exact hy)), N5.out, BJ, A5.out.frS FJ (fun y hy e => by cases hy; exact absurd e (by show ¬ (w1.heap.size + 1 = w1.heap.size); omega)), G5.out, ?_, ?_⟩
            · exact Fr.below HS5.out.1 FJ (by have := HS5.out.2; omega) (fun y e => by show W.heap.size ≤ y; rw [e]; omega)
            · have := FJ.size; have := HS5.out.2; omega
          have HI6 := Lib.hid i6
          clear HJ HS5 I5 N5 X5 A5 V5 G5
          go_wp2
          go_roundw
          case rel => exact ⟨i + 1, HI6.out, by go_num, HNXT⟩
          case measure => have := HI6.out; simp [intOf]; omega
    · rw [decide_eq_false hgo]
      obtain ⟨hs1, c, h, I1', N1, X1, A1, G1, BW, hX⟩ := HM.out
      have I6 := Lib.hid I1'
      have N6 := Lib.hid N1
      have A6 := Lib.hid A1
      have X6 := Lib.hid X1
      have BW6 := Lib.hid BW
      clear I1' N1 A1 X1 hgo HM HM0 HT0 I1
      obtain ⟨w5, rfl⟩ : ∃ w5, w5 = wr := ⟨_, rfl⟩
      go_wp2
      go_loopw [12] (fun kv Y => ∃ k : Nat, k ≤ 10 ∧ kv = .int .i64 k ∧ Below w5.heap.size w5 Y) (fun kv _ => 10 - (intOf kv).toNat)
      case atStart => exact ⟨0, Nat.zero_le _, rfl, belR _⟩
      case round =>
        obtain ⟨k, hk3, rfl, BY⟩ := hrel
        by_cases hlt : k < 10
        · have k1a : decide ((k : Int) < 10) = true := decide_eq_true (by omega)
          have k1b : (k : Int) < 10 := by omega
          have k0 : (0 : Int) ≤ (k : Int) := by omega
          obtain ⟨k1, hk1⟩ : ∃ k1 : Nat, k1 = k + 1 := ⟨_, rfl⟩
          have hk2 : IntKind.i64.wrap ((k : Int) + 1) = (k1 : Int) := by rw [IntKind.wrap_i64]; omega
          have BW := belT BW6.out BY
          have BX := X6.out.fr (Fr.of_below (S := fun _ => False) BY) id
          have hc0 : wr.cell? ⟨w1.heap.size, 0, none⟩ = some (.int .i64 (h 0 : Nat)) := by have := BX.range 0 _ rfl; simpa using this
          have hc1 : wr.cell? ⟨w1.heap.size, 1, none⟩ = some (.int .i64 (h 1 : Nat)) := by have := BX.range 1 _ rfl; simpa using this
          have hc2 : wr.cell? ⟨w1.heap.size, 2, none⟩ = some (.int .i64 (h 2 : Nat)) := by have := BX.range 2 _ rfl; simpa using this
          obtain ⟨fv, hfv⟩ : ∃ fv, fv = decide (h 0 = k1 ∨ h 1 = k1 ∨ h 2 = k1) := ⟨_, rfl⟩
          have HFV := Lib.hid hfv
          have HK := Lib.hid (And.intro hlt hk1)
          have HG : Hid ((B.getO c [true, true, true] 1 k c.ds.length).isSome = fv ∧ ∀ d, B.getO c [true, true, true] 1 k c.ds.length = some d → B.ofL c d = dataN l k) := by
            obtain ⟨g1, g2⟩ := N6.out.get (e := 1) (x := k) (by decide) (by omega)
            refine ⟨?_, g2⟩
            rw [g1, hfv, hk1]
            congr 1
            apply propext
            constructor
            · rintro ⟨_, h | h | h⟩ <;> omega
            · intro h; refine ⟨rfl, ?_⟩; omega
          have HG2 : Hid ((B.getO c [true, true, true] 2 k c.ds.length).isSome = false) := by
            obtain ⟨g1, g2⟩ := N6.out.get (e := 2) (x := k) (by decide) (by omega)
            show _ = _
            rw [g1]
            exact decide_eq_false (fun hq => absurd hq.1 (by decide))
          obtain ⟨h0, hh0⟩ : ∃ h0, h0 = h 0 := ⟨_, rfl⟩
          obtain ⟨h1, hh1⟩ : ∃ h1, h1 = h 1 := ⟨_, rfl⟩
          obtain ⟨h2, hh2⟩ : ∃ h2, h2 = h 2 := ⟨_, rfl⟩
          rw [← hh0, ← hh1, ← hh2] at HFV
          rw [← hh0] at hc0
          rw [← hh1] at hc1
          rw [← hh2] at hc2
          clear hlt hk1 hfv BX hh0 hh1 hh2 hk3
          go_upto_region 21 with (fail)
          go_cut [13] from 77 to 95 (fun b Y => b = .bool fv ∧ wr = Y)
          case first =>
            by_cases e0 : h0 = k1
            · have hfv : fv = true := by rw [HFV.out]; exact decide_eq_true (.inl e0)
              have HF2 := Lib.hid hfv
              rw [e0] at hc0
              clear e0 HFV hc1 hc2 hfv HG
              go_wp2_with fail
              go_meet
              case rel => exact ⟨by rw [HF2.out], rfl⟩
            · have e0a : (((h0 : Nat) : Int) == (k1 : Int)) = false := by simpa using fun h => e0 (by omega)
              by_cases e1 : h1 = k1
              · have hfv : fv = true := by rw [HFV.out]; exact decide_eq_true (.inr (.inl e1))
                have HF2 := Lib.hid hfv
                rw [e1] at hc1
                clear e1 HFV hc2 hfv HG
                go_wp2_with fail
                go_meet
                case rel => exact ⟨by rw [HF2.out], rfl⟩
              · have e1a : (((h1 : Nat) : Int) == (k1 : Int)) = false := by simpa using fun h => e1 (by omega)
                by_cases e2 : h2 = k1
                · have hfv : fv = true := by rw [HFV.out]; exact decide_eq_true (.inr (.inr e2))
                  have HF2 := Lib.hid hfv
                  rw [e2] at hc2
                  clear e2 HFV hfv HG
                  go_wp2_with fail
                  go_meet
                  case rel => exact ⟨by rw [HF2.out], rfl⟩
                · have e2a : (((h2 : Nat) : Int) == (k1 : Int)) = false := by simpa using fun h => e2 (by omega)
                  have hfv : fv = false := by rw [HFV.out]; exact decide_eq_false (by omega)
                  have HF2 := Lib.hid hfv
                  clear HFV hfv HG
                  go_wp2_with fail
                  go_meet
                  case rel => exact ⟨by rw [HF2.out], rfl⟩
          obtain ⟨rfl, rfl⟩ := hcut
          clear hc0 hc1 hc2
          obtain ⟨q, hq, hq3⟩ : ∃ q : Nat, k % 3 = q ∧ q < 3 := ⟨k % 3, rfl, Nat.mod_lt _ (by decide)⟩
          have hq1 : ((k : Int)).tmod 3 = (q : Int) := by rw [← hq]; rfl
          have hq2 : IntKind.i64.wrap (1 + (q : Int)) = ((1 + q : Nat) : Int) := by rw [IntKind.wrap_i64]; omega
          have HQ := Lib.hid (And.intro hq hq3)
          clear hq hq3
          have HGC := bkget_any wr _ _ _ _ _ _ _ 1 k (I6.out.up BY) N6.out.up.lv (by rw [N6.out.len]; decide) (A6.out.up BY).bools (by decide) (by have := HK.out.1; omega)
          rw [HG.out.1] at HGC
          have HGC := Lib.hid HGC
          go_wp2_with fail
          refine Calls.mono HGC.out ?_
          rintro r wa ⟨xv, rfl, X7, ba⟩
          have X7 := Lib.hid X7
          go_upto_region 23 with (fail)
          go_cut [123] from 103 to 122 (fun b Y => b = .bool false ∧ Below wa.heap.size wa Y)
          case first =>
            cases fv with
            | false =>
              go_wp2_with fail
              go_meet
              case rel => exact ⟨rfl, belR _⟩
            | true =>
              obtain ⟨di, hdi⟩ := Option.isSome_iff_exists.1 HG.out.1
              have X8 := X7.out di hdi
              rw [HG.out.2 di hdi] at X8
              have X8 := Lib.hid X8
              clear hdi
              have HLN := HNL.out
              have HSI := Lib.hid (HS.out.up BW)
              by_cases hA : nl < k
              · by_cases hB : cl = nl
                · subst hB
                  have HI : Hid (Ints wa (.slice al 0 0) (l.drop (min k l.length))) := by
                    have HSI' := HSI.out
                    show Ints _ _ _
                    rw [show min k l.length = cl by omega]
                    have := ((HSI'.tail (Nat.le_refl _)).1 rfl).up ba
                    rw [Nat.sub_self] at this
                    exact this
                  clear HLN HSI
                  go_wp2_with fail
                  refine Calls.mono (sectors13_any _ _ (1 + q) wa HI.out (by have := HQ.out; omega)) ?_
                  rintro r w3 ⟨dv, rfl, D3, b3⟩
                  rw [show sectL (l.drop (min k l.length)) (1 + q) = dataN l k by unfold dataN; rw [HQ.out.1]] at D3
                  obtain ⟨ad, cd, rfl, _, _⟩ := D3.shape
                  have HSA := same14_any _ _ (dataN l k) (dataN l k) w3 (X8.out.up b3).parts D3.parts
                  rw [decide_eq_true rfl] at HSA
                  have HSA := Lib.hid HSA
                  clear D3
                  go_wp2_with fail
                  refine Calls.mono HSA.out ?_
                  rintro r w4 ⟨rfl, b4⟩
                  go_wp2
                  go_meet
                  case rel => exact ⟨rfl, belT b3 b4⟩
                · have hB' : ¬ nl = cl := fun h => hB h.symm
                  have HI : Hid (Ints wa (.slice (Option.map (fun x => x.add nl) al) 0 (cl - nl)) (l.drop (min k l.length))) := by
                    show Ints _ _ _
                    rw [show min k l.length = nl by omega]
                    have := ((HSI.out.tail (Nat.le_refl _)).2 hB').up ba
                    rw [Nat.sub_self] at this
                    exact this
                  clear HLN HSI
                  go_wp2_with fail
                  refine Calls.mono (sectors13_any _ _ (1 + q) wa HI.out (by have := HQ.out; omega)) ?_
                  rintro r w3 ⟨dv, rfl, D3, b3⟩
                  rw [show sectL (l.drop (min k l.length)) (1 + q) = dataN l k by unfold dataN; rw [HQ.out.1]] at D3
                  obtain ⟨ad, cd, rfl, _, _⟩ := D3.shape
                  have HSA := same14_any _ _ (dataN l k) (dataN l k) w3 (X8.out.up b3).parts D3.parts
                  rw [decide_eq_true rfl] at HSA
                  have HSA := Lib.hid HSA
                  clear D3
                  go_wp2_with fail
                  refine Calls.mono HSA.out ?_
                  rintro r w4 ⟨rfl, b4⟩
                  go_wp2
                  go_meet
                  case rel => exact ⟨rfl, belT b3 b4⟩
              · by_cases hB : cl = k
                · have hle : k ≤ nl := by omega
                  have hB2 := hB.symm
                  subst hB2
                  have HI : Hid (Ints wa (.slice al (nl - k) 0) (l.drop (min k l.length))) := by
                    show Ints _ _ _
                    rw [show min k l.length = k by omega]
                    exact ((HSI.out.tail hle).1 rfl).up ba
                  clear HLN HSI
                  go_wp2_with fail
                  refine Calls.mono (sectors13_any _ _ (1 + q) wa HI.out (by have := HQ.out; omega)) ?_
                  rintro r w3 ⟨dv, rfl, D3, b3⟩
                  rw [show sectL (l.drop (min k l.length)) (1 + q) = dataN l k by unfold dataN; rw [HQ.out.1]] at D3
                  obtain ⟨ad, cd, rfl, _, _⟩ := D3.shape
                  have HSA := same14_any _ _ (dataN l k) (dataN l k) w3 (X8.out.up b3).parts D3.parts
                  rw [decide_eq_true rfl] at HSA
                  have HSA := Lib.hid HSA
                  clear D3
                  go_wp2_with fail
                  refine Calls.mono HSA.out ?_
                  rintro r w4 ⟨rfl, b4⟩
                  go_wp2
                  go_meet
                  case rel => exact ⟨rfl, belT b3 b4⟩
                · have hB' : ¬ k = cl := fun h => hB h.symm
                  have hle : k ≤ nl := by omega
                  have HI : Hid (Ints wa (.slice (Option.map (fun x => x.add k) al) (nl - k) (cl - k)) (l.drop (min k l.length))) := by
                    show Ints _ _ _
                    rw [show min k l.length = k by omega]
                    exact ((HSI.out.tail hle).2 hB').up ba
                  clear HLN HSI
                  go_wp2_with fail
                  refine Calls.mono (sectors13_any _ _ (1 + q) wa HI.out (by have := HQ.out; omega)) ?_
                  rintro r w3 ⟨dv, rfl, D3, b3⟩
                  rw [show sectL (l.drop (min k l.length)) (1 + q) = dataN l k by unfold dataN; rw [HQ.out.1]] at D3
                  obtain ⟨ad, cd, rfl, _, _⟩ := D3.shape
                  have HSA := same14_any _ _ (dataN l k) (dataN l k) w3 (X8.out.up b3).parts D3.parts
                  rw [decide_eq_true rfl] at HSA
                  have HSA := Lib.hid HSA
                  clear D3
                  go_wp2_with fail
                  refine Calls.mono HSA.out ?_
                  rintro r w4 ⟨rfl, b4⟩
                  go_wp2
                  go_meet
                  case rel => exact ⟨rfl, belT b3 b4⟩
          obtain ⟨rfl, Bc⟩ := hcut
          have HGD := bkget_any wc _ _ _ _ _ _ _ 2 k (I6.out.up (belT BY (belT ba Bc))) N6.out.up.lv (by rw [N6.out.len]; decide) (A6.out.up (belT BY (belT ba Bc))).bools (by decide) (by have := HK.out.1; omega)
          rw [HG2.out] at HGD
          have HGD := Lib.hid HGD
          have BYC := belT BY (belT ba Bc)
          clear ba Bc
          go_wp2_with fail
          refine Calls.mono HGD.out ?_
          rintro r wd ⟨yv, rfl, _, bd⟩
          have BYD := belT BYC bd
          go_wp2
          go_roundw
          case rel => exact ⟨k1, by have := HK.out; omega, rfl, BYD⟩
          case measure => have := HK.out; simp [intOf]; omega
        · have hke : k = 10 := by omega
          subst hke
          go_wp2_with fail
          refine Calls.mono (wakes19_any _) ?_
          rintro r wz ⟨rfl, bz⟩
          go_wp2
          go_ret
          exact ⟨rfl, belT BW6.out (belT BY bz)⟩
end Go.Proofs.Ytenjpldinnbcbaa
