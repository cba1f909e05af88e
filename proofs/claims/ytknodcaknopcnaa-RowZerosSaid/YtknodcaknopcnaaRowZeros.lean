/- The walk of RowZeros (chapter 13). True at every input. -/
import Derived.Test.YtknodcaknopcnaaRwZ
import Derived.Test.YtknodcaknopcnaaWk13
namespace Go.Proofs.Ytknodcaknopcnaa
open Go.RowKit
set_option linter.unusedVariables false
set_option linter.unusedSimpArgs false
set_option maxRecDepth 100000
set_option maxHeartbeats 2000000

theorem bor8 {a b : Nat} (ha : a < 256) (hb : b < 256) : bits .or .u8 (a : Int) (b : Int) = ((a ||| b : Nat) : Int) := by
  have h : a ||| b < 256 := Nat.or_lt_two_pow (n := 8) ha hb
  show IntKind.wrap .u8 _ = _
  have e : (BitVec.ofInt IntKind.u8.bits (a : Int) ||| BitVec.ofInt IntKind.u8.bits (b : Int)).toNat = a ||| b := by
    rw [BitVec.toNat_or]
    simp [IntKind.bits]
    rw [Nat.mod_eq_of_lt ha, Nat.mod_eq_of_lt hb]
  rw [e]
  rw [IntKind.wrap_u8]
  omega
attribute [local irreducible] Go.Calls Byt Own Parts RowB OwnD RowL
theorem rowZeros_law (n : Int) (hn0 : -9223372036854775808 ≤ n ∧ n ≤ 9223372036854775807) (r0 : Int) (hr0 : -9223372036854775808 ≤ r0 ∧ r0 ≤ 9223372036854775807) (k0 : Int) (hk0 : -9223372036854775808 ≤ k0 ∧ k0 ≤ 9223372036854775807) (x0 : Int) (hx0 : -9223372036854775808 ≤ x0 ∧ x0 ≤ 9223372036854775807) (w : World) :
    Calls Try.prog 5 #[.int .i64 n, .int .i64 r0, .int .i64 k0, .int .i64 x0] w fun e w' => e = .returned (.bool true) ∧ Below w.heap.size w w' := by
  obtain ⟨j0, hj, hy0, hy1, hy2⟩ := info_parts uint8_info
  obtain ⟨i0, hi, hz0, hz1, hz2⟩ := info_parts parts_info
  have hn : i64b n := hn0
  have HR := Lib.hid (show i64b r0 from hr0)
  have HKK := Lib.hid (show i64b k0 from hk0)
  have HX := Lib.hid hx0
  clear hn0 hr0 hk0 hx0
  go_enter Try.func5, Try.ntmps5
  go_wp2_with fail
  refine Calls.mono (pgood_any n _ hn) ?_
  rintro e w1 ⟨l', d', c', rfl, hok, b1⟩
  obtain ⟨l, d, c, rfl, rfl, rfl, hokN⟩ := geo_okN hok
  obtain ⟨hl64, hd64, hc64⟩ := okN_in hokN
  have HOK := Lib.hid hokN
  have HK : Hid (∀ X, Below (w1.alloc (.cells #[.int .i64 (l : Int), .int .i64 (d : Int), .int .i64 (c : Int)] 42)).heap.size (w1.alloc (.cells #[.int .i64 (l : Int), .int .i64 (d : Int), .int .i64 (c : Int)] 42)) X → X.cell? ⟨w1.heap.size, 0, none⟩ = some (.int .i64 l) ∧ X.cell? ⟨w1.heap.size, 1, none⟩ = some (.int .i64 d) ∧ X.cell? ⟨w1.heap.size, 2, none⟩ = some (.int .i64 c)) :=
    fun X hX => ⟨box_up hX 0 rfl, box_up hX 1 rfl, box_up hX 2 rfl⟩
  have HW : Hid ((Geo.mk l d c).width = ((d - (l - 4) : Nat) : Int)) := by
    show _ = _
    unfold Geo.width
    rw [if_pos hok]
    have := hokN.1
    dsimp only
    omega
  have HRW := Lib.hid (refwidth_any l d c · hl64 hd64 hc64)
  have hd8 : Hid (1 ≤ d ∧ d ≤ 8 ∧ l - 4 + (d - (l - 4)) = d ∧ 1 ≤ d - (l - 4) ∧ 3 ≤ d ∧ l - 4 ≤ 2) := by
    obtain ⟨h1, h2, _⟩ := hokN
    refine ⟨?_, ?_, ?_, ?_, ?_, ?_⟩ <;> omega
  have hd81 : (1 : Int) ≤ (d : Int) := by have := hd8.out; omega
  have hd88 : (d : Int) ≤ 8 := by have := hd8.out; omega
  have hdd : ((d : Int) != (d : Int)) = false := by simp
  clear hl64 hd64 hc64 hokN hok hn
  go_wp2_with fail
  refine Calls.mono (within_ex r0 16 _ (by decide) (by decide) HR.out) ?_
  rintro e w2 ⟨r, rfl, hr, rfl⟩
  have HRR : Hid (r < 16) := Lib.hid (by omega)
  have BB : Hid (Below w.heap.size w (w1.alloc (.cells #[.int .i64 (l : Int), .int .i64 (d : Int), .int .i64 (c : Int)] 42))) := Lib.hid (belA1 b1)
  clear hr
  obtain ⟨m, hm⟩ : ∃ m, m = d - (l - 4) := ⟨_, rfl⟩
  have HM := Lib.hid hm
  have hm8 : Hid (1 ≤ m ∧ m ≤ 8) := by have := hd8.out; show _ ∧ _; omega
  rw [← hm] at HW
  clear hm
  go_wp2_with (at_make; refine wpList_make_bytes rfl _ _ 22 rfl j0 Try.underlying22 hj hy0 hy1 hy2 _ _ _ _ 32 rfl rfl rfl rfl (by decide) ?_; intro w3 O3 b3)
  obtain ⟨zb, hzb⟩ : ∃ zb, zb = (w1.alloc (.cells #[.int .i64 (l : Int), .int .i64 (d : Int), .int .i64 (c : Int)] 42)).heap.size := ⟨_, rfl⟩
  have hzlt : zb < w3.heap.size := by rw [hzb]; exact O3.lt _ rfl
  have O3' : Own w3 (w1.alloc (.cells #[.int .i64 (l : Int), .int .i64 (d : Int), .int .i64 (c : Int)] 42)).heap.size (.slice (some ⟨zb, 0, none⟩) 32 32) Y.z32 := by rw [hzb]; exact O3
  have BZ : Below (w1.alloc (.cells #[.int .i64 (l : Int), .int .i64 (d : Int), .int .i64 (c : Int)] 42)).heap.size (w1.alloc (.cells #[.int .i64 (l : Int), .int .i64 (d : Int), .int .i64 (c : Int)] 42)) w3 := b3
  have YZ := Lib.hid O3'.byt
  have HZB := Lib.hid hzlt
  have hzbs : (w1.alloc (.cells #[.int .i64 (l : Int), .int .i64 (d : Int), .int .i64 (c : Int)] 42)).heap.size = zb := hzb.symm
  have hw3z : (w1.alloc (.cells #[.int .i64 (l : Int), .int .i64 (d : Int), .int .i64 (c : Int)] 42)).heap.size ≤ w3.heap.size := BZ.size
  try rw [show w1.heap.size + 1 = zb by rw [hzb]; simp]
  clear O3 b3 hzb
  go_loopw [11, 12] (fun v i X => ∃ k : Nat, k ≤ m ∧ i = .int .i64 k ∧ Hid (RowL X w3.heap.size v (List.replicate k Y.z32)) ∧ Below w3.heap.size w3 X) (fun _ i _ => m - (intOf i).toNat)
  case atStart => exact ⟨0, Nat.zero_le _, rfl, Lib.hid (RowL.nil _ _), belR _⟩
  case round =>
    obtain ⟨k, hk, rfl, hO, BX⟩ := hrel
    obtain ⟨c0, c1, c2⟩ := HK.out _ (belT BZ BX)
    go_wp2_with fail
    refine Calls.mono (HRW.out _) ?_
    rw [HW.out]
    rintro e w4 ⟨rfl, b4⟩
    have B4 := belT BX b4
    clear c0 c1 c2
    by_cases hlt : k < m
    · have HLT := Lib.hid hlt
      have hkn : (k : Int) < (m : Int) := by omega
      have hk0 : (0 : Int) ≤ (k : Int) := by omega
      have hk1' : IntKind.i64.wrap ((k : Int) + 1) = ((k + 1 : Nat) : Int) := by have := hm8.out; rw [IntKind.wrap_i64]; omega
      have HA2 : Hid ((List.replicate k Y.z32).length ≤ 1000) := Lib.hid (by have := hm8.out; simp; omega)
      clear hlt
      go_wp2_with (at_builtin; go_loud (refine wpList_append_rowL rfl (.tmp 33) (.tmp 35) 25 rfl i0 Try.underlying25 hi hz0 hz1 hz2 w3.heap.size _ _ rfl ((hO.out.up b4).up (belA1 (belR _))) _ _ Y.z32 rfl (At.one _ _ _ (by first | rfl | simp)) ((YZ.out.up B4).up (belA1 (belR _))) (.inr (fun g hg => by cases hg; exact HZB.out)) HA2.out (by have := B4.size; simp; omega) ?_); intro v6 w6 O6 g6)
      go_roundw
      case rel => exact ⟨k + 1, HLT.out, by go_num, Lib.hid (by rw [List.replicate_succ']; exact O6), belG (belA1 B4) g6 (fun g hg => hO.out.ge g hg)⟩
      case measure => have := HLT.out; simp [intOf]; omega
    · have hkB : decide ((k : Int) < (m : Int)) = false := by rw [decide_eq_false_iff_not]; omega
      have hkP : ((k : Int) < (m : Int)) = False := by rw [eq_iff_iff]; exact ⟨fun h => by omega, fun h => h.elim⟩
      have ek : k = m := by omega
      rw [ek] at hO
      have HD0 := hO.out.up b4
      obtain ⟨gd, kd, rfl, hgd1, hgd2, hkd1, hkd2⟩ := HD0.toB.shape (by have := hm8.out; simp; omega)
      rw [List.length_replicate] at HD0 hkd1 ⊢
      have HD := Lib.hid HD0
      have B4' := belT BZ B4
      clear HD0
      obtain ⟨c0, c1, c2⟩ := HK.out _ B4'
      clear ek hlt hk hO
      go_wp2_with fail
      refine Calls.mono (fill_any l d c r _ (List.replicate m Y.z32) _ HOK.out HRR.out HD.out.parts (by rw [List.length_replicate]; exact HM.out) (Y.zeros_32 m)) ?_
      rintro e w5 ⟨v5, rfl, O5, b5⟩
      rw [HM.out, Y.fill_zeros HOK.out] at O5
      obtain ⟨g5, k5, rfl, hg51, hg52, _, _⟩ := O5.toB.shape (by have := hd8.out; simp; omega)
      have HX5 := Lib.hid O5.parts
      rw [List.length_replicate] at HX5 ⊢
      have B5 := belT B4' b5
      have B35 := belT B4 b5
      clear c0 c1 c2 O5 hg51 hg52
      obtain ⟨c0, c1, c2⟩ := HK.out _ B5
      go_wp2_with fail
      go_loopw [55] (fun i X => ∃ k : Nat, k ≤ d ∧ i = .int .i64 k ∧ Below w5.heap.size w5 X) (fun i _ => d - (intOf i).toNat)
      case atStart => exact ⟨0, Nat.zero_le _, rfl, belR _⟩
      case round =>
        obtain ⟨k, hk, rfl, BX5⟩ := hrel
        by_cases hlt : k < d
        · have HLT := Lib.hid hlt
          have hkn : (k : Int) < (d : Int) := by omega
          have hk0 : (0 : Int) ≤ (k : Int) := by omega
          have hk1' : IntKind.i64.wrap ((k : Int) + 1) = ((k + 1 : Nat) : Int) := by have := hd8.out; rw [IntKind.wrap_i64]; omega
          obtain ⟨bb, ob, cc, p, he, hcc, hp, hy⟩ := (HX5.out.up BX5).get (k := k) (by rw [List.length_replicate]; exact hlt)
          cases he
          rw [Nat.zero_add] at hcc
          have hpz : p = Y.z32 := by have := hp.out; rw [List.getElem?_replicate, if_pos hlt] at this; exact (Option.some.inj this).symm
          subst hpz
          obtain ⟨ap, kp, rfl, _, _⟩ := hy.shapeN (n := 32) (by simp)
          have HY := Lib.hid hy
          clear hy hlt c0 c1 c2
          go_wp2_with fail
          refine Calls.mono (same_any _ _ Y.z32 Y.z32 _ HY.out (YZ.out.up (belT B35 BX5))) ?_
          rw [decide_eq_true rfl]
          rintro e w6 ⟨rfl, d6⟩
          go_wp2
          go_roundw
          case rel => exact ⟨k + 1, HLT.out, by go_num, belT BX5 (d6.below _)⟩
          case measure => have := HLT.out; simp [intOf]; omega
        · have hkB2 : decide ((k : Int) < (d : Int)) = false := by rw [decide_eq_false_iff_not]; omega
          have hkP2 : ((k : Int) < (d : Int)) = False := by rw [eq_iff_iff]; exact ⟨fun h => by omega, fun h => h.elim⟩
          clear hlt hk c0 c1 c2
          go_wp2_with fail
          refine Calls.mono (sector_any x0 _ HX.out) ?_
          rintro e w6 ⟨v6, rfl, O6, b6⟩
          have l6 := secL_len x0
          obtain ⟨g6, k6, he6, hg61, hg62, hk61, hk62⟩ := O6.shape (by rw [l6]; decide)
          rw [l6] at he6
          subst he6
          obtain ⟨y0, hy0'⟩ : ∃ y, (secL x0)[0]? = some y := ⟨_, List.getElem?_eq_getElem (by rw [l6]; decide)⟩
          obtain ⟨hy8, hca, hfa⟩ := O6.cells hy0'
          have hor : bits .or .u8 (y0 : Int) 1 = ((y0 ||| 1 : Nat) : Int) := bor8 (b := 1) hy8 (by decide)
          have hy18 : y0 ||| 1 < 256 := Nat.or_lt_two_pow (n := 8) hy8 (by decide)
          have h1 := O6.store 0 (y0 ||| 1) hy18
          obtain ⟨s, hs⟩ : ∃ s, s = (secL x0).set 0 (y0 ||| 1) := ⟨_, rfl⟩
          have O7 := Lib.hid h1.1
          rw [← hs] at O7
          have ls32 : s.length = 32 := by rw [hs, List.length_set]; exact l6
          have hs0 : Y.at0 s 0 ≠ 0 := by
            unfold Y.at0
            rw [hs, List.getD, List.getElem?_set_self (by rw [l6]; decide)]
            show y0 ||| 1 ≠ 0
            intro e
            have := congrArg (fun z => z.testBit 0) e
            simp at this
          have HS0 := Lib.hid hs0
          have HS32 := Lib.hid ls32
          have B6x : Below w5.heap.size w5 (w6.setCell ⟨g6, 0, none⟩ (.int .u8 ((y0 ||| 1 : Nat) : Int))) := (belT BX5 b6).setCell (by show w5.heap.size ≤ g6; exact Nat.le_trans BX5.size hg61) _
          have hg6lt : Hid (w4.heap.size ≤ g6) := Lib.hid (Nat.le_trans b5.size (Nat.le_trans BX5.size hg61))
          clear h1 O6 hs hs0 ls32 l6 b6
          go_wp2_with fail
          refine Calls.mono (within_ex k0 m _ (by have := hm8.out; omega) (by have := hm8.out; omega) HKK.out) ?_
          rintro e w7 ⟨q, rfl, hq, rfl⟩
          have hq0 : (0 : Int) ≤ (q : Int) := by omega
          have HQ : Hid (q < m) := Lib.hid (by omega)
          have B46 : Below w4.heap.size w4 (w6.setCell ⟨g6, 0, none⟩ (.int .u8 ((y0 ||| 1 : Nat) : Int))) := belT b5 B6x
          obtain ⟨cz, pz, hcz, hfz, _⟩ := (HD.out.toB.up B46).get (k := q) (by rw [List.length_replicate]; exact HQ.out)
          have q1 := Lib.hid (RowB.put (HD.out.toB.up B46) (k := q) (by rw [List.length_replicate]; exact HQ.out) O7.out.byt (.inr (fun b hb e => by cases hb; have := hg6lt.out; have e' : gd = g6 := e; omega)))
          obtain ⟨w8, hw8⟩ : ∃ w8, w8 = (w6.setCell ⟨g6, 0, none⟩ (.int .u8 ((y0 ||| 1 : Nat) : Int))).setCell ⟨gd, q, none⟩ (.slice (some ⟨g6, 0, none⟩) 32 k6) := ⟨_, rfl⟩
          have B38 : Below w3.heap.size w3 w8 := by rw [hw8]; exact (belT B4 B46).setCell (by show w3.heap.size ≤ gd; exact hgd1) _
          have q1 : Hid (RowB w8 w3.heap.size (.slice (some ⟨gd, 0, none⟩) m kd) ((List.replicate m Y.z32).set q s)) := by rw [hw8]; exact q1
          have B8 := belT BZ B38
          obtain ⟨c0, c1, c2⟩ := HK.out _ B8
          rw [hw8] at c0 c1 c2
          clear hq hca hfa
          go_wp2_with fail
          rw [← hw8]
          refine Calls.mono (fill_any l d c r _ ((List.replicate m Y.z32).set q s) _ HOK.out HRR.out q1.out.parts (by rw [List.length_set, List.length_replicate]; exact HM.out) (Y.set_mem (Y.zeros_32 m) HS32.out)) ?_
          rintro e w9 ⟨v9, rfl, O9, b9⟩
          have HC := Lib.hid (Y.fill_one (r := r) HOK.out HS32.out O7.out.byt.bytes HS0.out (k := q) (by rw [← HM.out]; exact HQ.out))
          rw [← HM.out] at HC
          have hFl : (Y.fillL l d c r ((List.replicate m Y.z32).set q s)).length = d := Y.fillL_len _ _ _ _ _
          have h32F := Y.fillL_32 (r := r) HOK.out (data := (List.replicate m Y.z32).set q s) (by rw [List.length_set, List.length_replicate]; exact HM.out) (Y.set_mem (Y.zeros_32 m) HS32.out)
          obtain ⟨F, hF⟩ : ∃ F, F = Y.fillL l d c r ((List.replicate m Y.z32).set q s) := ⟨_, rfl⟩
          rw [← hF] at O9 HC hFl h32F
          obtain ⟨g9, k9, rfl, hg91, hg92, _, _⟩ := O9.toB.shape (by rw [hFl]; have := hd8.out; omega)
          have HX9 := Lib.hid O9.parts
          rw [hFl] at HX9 ⊢
          have HFL := Lib.hid hFl
          have H32F := Lib.hid h32F
          have B9 := belT B8 b9
          have B39 := belT B38 b9
          clear c0 c1 c2 O9 hg91 hg92 hcz hfz hw8 hF hFl h32F
          obtain ⟨c0, c1, c2⟩ := HK.out _ B9
          go_wp2_with fail
          clear c0 c1 c2
          go_loopw [19, 96] (fun cn i X => ∃ k : Nat, k ≤ d ∧ i = .int .i64 k ∧ cn = .int .i64 (Y.cntA F k : Nat) ∧ Below w9.heap.size w9 X) (fun _ i _ => d - (intOf i).toNat)
          case atStart => exact ⟨0, Nat.zero_le _, rfl, rfl, belR _⟩
          case round =>
            obtain ⟨k, hk, rfl, rfl, BX9⟩ := hrel
            obtain ⟨cn, hcn⟩ : ∃ cn, cn = Y.cntA F k := ⟨_, rfl⟩
            have hcn8 : cn ≤ 8 := by rw [hcn]; have := Y.cntA_le F k; have := hd8.out; omega
            rw [← hcn]
            have HCN := Lib.hid hcn
            clear hcn
            by_cases hlt : k < d
            · have HLT := Lib.hid hlt
              have hkn : (k : Int) < (d : Int) := by omega
              have hk0 : (0 : Int) ≤ (k : Int) := by omega
              have hk1' : IntKind.i64.wrap ((k : Int) + 1) = ((k + 1 : Nat) : Int) := by have := hd8.out; rw [IntKind.wrap_i64]; omega
              have hcn1 : IntKind.i64.wrap ((cn : Int) + 1) = ((cn + 1 : Nat) : Int) := by rw [IntKind.wrap_i64]; omega
              obtain ⟨bb, ob, cc, p, he, hcc, hp, hy⟩ := (HX9.out.up BX9).get (k := k) (by rw [HFL.out]; exact hlt)
              cases he
              rw [Nat.zero_add] at hcc
              have hp32 : p.length = 32 := H32F.out p (List.mem_of_getElem? hp.out)
              obtain ⟨ap, kp, rfl, _, _⟩ := hy.shapeN hp32
              have HY := Lib.hid hy
              have hpk : F.getD k [] = p := by rw [List.getD, hp.out]; rfl
              have HPK := Lib.hid hpk
              clear hy hlt hp32 hpk
              by_cases hz : p = Y.z32
              · have HZ := Lib.hid hz
                clear hz
                go_wp2_with fail
                refine Calls.mono (same_any _ _ p Y.z32 _ HY.out (YZ.out.up (belT B39 BX9))) ?_
                rw [decide_eq_true HZ.out]
                rintro e wa ⟨rfl, da⟩
                go_wp2
                go_roundw
                case rel => exact ⟨k + 1, HLT.out, by go_num, by rw [Y.cntA_no (by rw [HPK.out, HZ.out]), HCN.out], belT BX9 (da.below _)⟩
                case measure => have := HLT.out; simp [intOf]; omega
              · have HZ := Lib.hid hz
                clear hz
                go_wp2_with fail
                refine Calls.mono (same_any _ _ p Y.z32 _ HY.out (YZ.out.up (belT B39 BX9))) ?_
                rw [decide_eq_false HZ.out]
                rintro e wa ⟨rfl, da⟩
                go_wp2
                go_roundw
                case rel => exact ⟨k + 1, HLT.out, by go_num, by rw [Y.cntA_yes (by rw [HPK.out]; exact HZ.out), ← HCN.out]; go_num, belT BX9 (da.below _)⟩
                case measure => have := HLT.out; simp [intOf]; omega
            · have hkB3 : decide ((k : Int) < (d : Int)) = false := by rw [decide_eq_false_iff_not]; omega
              have hkP3 : ((k : Int) < (d : Int)) = False := by rw [eq_iff_iff]; exact ⟨fun h => by omega, fun h => h.elim⟩
              have ek2 : k = d := by omega
              have hcl : (cn : Int) = (l : Int) - 3 := by
                rw [HCN.out, ek2, HC.out]
                have := HOK.out.1
                omega
              have hl56 : 5 ≤ l ∧ l ≤ 6 := by have := HOK.out.1; omega
              have hwl : IntKind.i64.wrap ((l : Int) - 3) = (cn : Int) := by rw [IntKind.wrap_i64]; omega
              have hcc : ((cn : Int) == (cn : Int)) = true := by simp
              obtain ⟨c0, c1, c2⟩ := HK.out _ (belT B9 BX9)
              clear hcl hl56 ek2 hlt hk
              go_wp2_with fail
              refine Calls.mono (wakes13_any _) ?_
              rintro e wb ⟨rfl, bb⟩
              go_wp2_with fail
              go_ret
              exact ⟨rfl, belT BB.out (belT B9 (belT BX9 bb))⟩
end Go.Proofs.Ytknodcaknopcnaa
