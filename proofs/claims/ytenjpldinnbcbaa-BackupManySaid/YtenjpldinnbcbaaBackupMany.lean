/- The law BackupMany (chapter 19). True at every input. -/
import Derived.Test.YtenjpldinnbcbaaBkM
namespace Go.Proofs.Ytenjpldinnbcbaa
open Go.RowKit
set_option linter.unusedVariables false
set_option linter.unusedSimpArgs false
set_option maxRecDepth 100000
set_option maxHeartbeats 2000000

/-- behind some rounds -/
def MJ (base g : Nat) (lv : Value) (vv kv : Value) (ks : List Int) (j : Nat) (X : World) : Prop :=
  ∃ hs c, IsBench X base g lv hs c ∧ BA (ofB g lv hs) X vv [true, true] ∧ IA (ofB g lv hs) X kv ks ∧ B.Up c ∧ c.ds.length = 2 ∧ (∀ d ∈ c.ds, d.p.length ≤ 46 * j) ∧ 0 ≤ c.writes ∧ c.writes ≤ 100 * (j : Int)
attribute [local irreducible] Go.Calls Byt Own Parts PA BA Bools OwnD OwnT IA
theorem backupMany_law (W : World) (n : Int) (hn : -9223372036854775808 ≤ n ∧ n ≤ 9223372036854775807) (v : Value) (l : List Int) (s : Ints W v l) (hb : l.length * 8 ≤ 140737488351232) (e0 : Int) (he : -9223372036854775808 ≤ e0 ∧ e0 ≤ 9223372036854775807) (x0 : Int) (hx : -9223372036854775808 ≤ x0 ∧ x0 ≤ 9223372036854775807) :
    Calls Try.prog 4 #[.int .i64 n, v, .int .i64 e0, .int .i64 x0] W fun e W' => e = .returned (.bool true) ∧ Below W.heap.size W W' := by
  obtain ⟨e, hee⟩ : ∃ k : Nat, (k : Int) = withinI e0 65536 := ⟨(withinI e0 65536).toNat, by have := withinI_ge e0 65536; omega⟩
  obtain ⟨x, hxx⟩ : ∃ k : Nat, (k : Int) = withinI x0 17 := ⟨(withinI x0 17).toNat, by have := withinI_ge x0 17; omega⟩
  obtain ⟨k0, hkk⟩ : ∃ k : Nat, (k : Int) = withinI n 28 := ⟨(withinI n 28).toNat, by have := withinI_ge n 28; omega⟩
  have he' : e < 65536 := by have := withinI_lt e0 65536 (by decide); omega
  have hx' : x ≤ 16 := by have := withinI_lt x0 17 (by decide); omega
  have hk' : k0 < 28 := by have := withinI_lt n 28 (by decide); omega
  have W1 := Lib.hid (fun w => within_any e0 65536 w (by decide) he.1 he.2)
  have W2 := Lib.hid (fun w => within_any x0 17 w (by decide) hx.1 hx.2)
  have W3 := Lib.hid (fun w => within_any n 28 w (by decide) hn.1 hn.2)
  rw [← hee] at W1
  rw [← hxx] at W2
  rw [← hkk] at W3
  have HS := Lib.hid s
  have HB := Lib.hid (And.intro he' (And.intro hx' hk'))
  clear hn s hb he hx hee hxx hkk he' hx' hk'
  go_enter Try.func4, Try.ntmps4
  go_wp2_with fail
  refine Calls.mono (bnew_any W 2 (by decide) (by decide)) ?_
  rintro r w1 ⟨rfl, ⟨lv, hs, I1⟩, b1⟩
  have hlt1 := I1.lts
  have hsz1 : W.heap.size < w1.heap.size := I1.lt
  have I1 := Lib.hid I1
  have T1 := OwnT.lit w1 #[.bool true, .bool true] [true, true] (n := 2) (g := w1.heap.size) rfl rfl rfl (by decide)
  go_wp2_with fail
  refine Calls.mono (W1.out _) ?_
  rintro r w2 ⟨rfl, rfl⟩
  go_wp2_with fail
  refine Calls.mono (W2.out _) ?_
  rintro r w2 ⟨rfl, rfl⟩
  go_wp2_with fail
  refine Calls.mono (W3.out _) ?_
  rintro r w2 ⟨rfl, rfl⟩
  obtain ⟨w2, hw2⟩ : ∃ w2, w2 = w1.alloc (.cells #[.bool true, .bool true] 4) := ⟨_, rfl⟩
  rw [← hw2] at T1 ⊢
  have B2 : Below w1.heap.size w1 w2 := by rw [hw2]; exact belA1 (belR _)
  have hsz2 : w2.heap.size = w1.heap.size + 1 := by rw [hw2]; simp
  have HI2 := Ints.lit w2 #[.int .i64 28, .int .i64 0, .int .i64 k0] [28, 0, (k0 : Int)] (e := 3) (n := 3) (g := w2.heap.size) rfl rfl rfl (by simp) (by have := HB.out.2.2; intro y hy; simp at hy; omega)
  have HM0 : Hid (MJ W.heap.size W.heap.size lv (.slice (some ⟨w1.heap.size, 0, none⟩) 2 2) (.slice (some ⟨w2.heap.size, 0, none⟩) 3 3) [28, 0, (k0 : Int)] 0 (w2.alloc (.cells #[.int .i64 28, .int .i64 0, .int .i64 k0] 3))) := by
    refine ⟨hs, B.fresh 2, (I1.out.up B2).up (belA1 (belR _)), (T1.ba hlt1).up (belA1 (belR _)), ?_, B.Up.fresh 2, B.fresh_len 2, fun d hd => by rw [List.eq_of_mem_replicate hd]; decide, by decide, by decide⟩
    unfold IA
    exact ⟨HI2, fun _ y hy hs => by cases hy; have : w2.heap.size < w1.heap.size := hlt1 _ hs; omega⟩
  have BM0 : Below W.heap.size W (w2.alloc (.cells #[.int .i64 28, .int .i64 0, .int .i64 k0] 3)) := belA1 (belT b1 B2)
  have HSZ : w2.heap.size < (w2.alloc (.cells #[.int .i64 28, .int .i64 0, .int .i64 k0] 3)).heap.size := by simp
  clear T1 hw2 HI2 B2 b1 hlt1
  have HSZ1 := Lib.hid (And.intro hsz1 hsz2)
  clear hsz1 hsz2
  go_wp2
  go_loopw [36] (fun i X => ∃ j : Nat, j ≤ 3 ∧ i = .int .i64 j ∧ Hid (MJ W.heap.size W.heap.size lv (.slice (some ⟨w1.heap.size, 0, none⟩) 2 2) (.slice (some ⟨w2.heap.size, 0, none⟩) 3 3) [28, 0, (k0 : Int)] j X) ∧ Below W.heap.size W X ∧ w2.heap.size < X.heap.size) (fun i _ => 3 - (intOf i).toNat)
  case atStart => exact ⟨0, Nat.zero_le _, rfl, HM0, BM0, HSZ⟩
  case round =>
    obtain ⟨j, hj3, rfl, HM, BX, hsX⟩ := hrel
    by_cases hlt : j < 3
    · obtain ⟨hs1, c, I2, V2, K2, U2, L2, P2, Wa, Wb⟩ := HM.out
      obtain ⟨bb, ob, kj, hbo, hcc, hck, _⟩ := K2.ints.cellAt (k := j) (by simpa using hlt)
      cases hbo
      rw [Nat.zero_add] at hcc
      obtain ⟨q, hq, hq28⟩ : ∃ q : Nat, kj = (q : Int) ∧ q ≤ 28 := by
        have h3 : j = 0 ∨ j = 1 ∨ j = 2 := by omega
        have hk := hck.out
        rcases h3 with rfl | rfl | rfl
        · cases hk; exact ⟨28, rfl, by decide⟩
        · cases hk; exact ⟨0, rfl, by decide⟩
        · cases hk; exact ⟨k0, rfl, by have := HB.out.2.2; omega⟩
      subst hq
      obtain ⟨DL, hDL⟩ : ∃ DL, DL = sectL l q := ⟨_, rfl⟩
      have dl : DL.length = q := by rw [hDL]; exact sectL_len l q
      have d32 : ∀ p ∈ DL, p.length = 32 := by rw [hDL]; exact sectL_32 l q
      have d8 : ∀ p ∈ DL, ∀ y ∈ p, y < 256 := by rw [hDL]; exact sectL_byte l q
      obtain ⟨C, hC⟩ : ∃ C, C = B.putB c [true, true] (headL e x DL :: DL) := ⟨_, rfl⟩
      obtain ⟨cu, cl, cw⟩ := B.put_up (lv := [true, true]) (e := e) (x := x) U2 d32 d8 (by omega)
      have cp := B.put_p (lv := [true, true]) (e := e) (x := x) U2 d32 d8 (by omega) P2
      have hlive := B.put_live (lv := [true, true]) (i := 0) (e := e) (x := x) U2 d32 d8 (by omega) (by omega) rfl
      rw [← hC] at cu cl cw cp hlive
      rw [L2] at cl cw
      have G1 : Hid (B.getO C [true, true] e x C.ds.length = some 0) := by
        rw [cl]
        exact B.getO_some (by decide) rfl hlive.2.2.2 (fun j hj => by omega)
      have HOF : Hid (B.ofL C 0 = DL) := hlive.2.2.1
      have HX := Lib.hid (And.intro cu (And.intro cl (And.intro cp cw)))
      have hcnt : B.cntL [true, true] 2 = 2 := rfl
      have HWW : Hid (0 ≤ C.writes ∧ C.writes ≤ 100 * ((j + 1 : Nat) : Int)) := by
        show _ ∧ _
        rw [cw, hcnt, dl]
        omega
      have HDL := Lib.hid hDL
      have HDLN := Lib.hid dl
      have D32 := Lib.hid d32
      have HC := Lib.hid hC
      have hLT2 := I2.lts
      have hjI : (j : Int) < 3 := by omega
      have hj0 : (0 : Int) ≤ (j : Int) := by omega
      have hj1' : IntKind.i64.wrap ((j : Int) + 1) = ((j + 1 : Nat) : Int) := by rw [IntKind.wrap_i64]; omega
      have HLT := Lib.hid hlt
      have HST := Lib.hid (And.intro I2 (And.intro V2 (And.intro K2 (And.intro U2 (And.intro L2 (And.intro P2 (And.intro Wa Wb)))))))
      have hq0 : Hid (q ≤ 28) := hq28
      clear I2 V2 K2 U2 L2 P2 Wa Wb hDL dl d32 d8 hC cu cl cw cp hlive hcnt hck hlt HM hq28
      go_wp2_with fail
      refine Calls.mono (sectors13_any v l q _ (HS.out.up BX) (by have := hq0.out; omega)) ?_
      rintro r w3 ⟨dv, rfl, D3, b3⟩
      rw [← HDL.out] at D3
      obtain ⟨ad, cd, rfl, _, _⟩ := D3.shape
      rw [HDLN.out]
      rw [HDLN.out] at D3
      have D3 := Lib.hid (D3.pa (S := ofB W.heap.size lv hs1) (fun y hy => hLT2 y hy))
      have hsz3 := b3.size
      have BX3 := belT BX b3
      have HPUT : Hid (Calls Try.prog 17 #[.pointer (some ⟨W.heap.size, 0, none⟩), .slice (some ⟨w1.heap.size, 0, none⟩) 2 2, .int .i64 (e : Int), .int .i64 (x : Int), .slice ad q cd] w3 fun r w' => r = .returned (.int .i64 0) ∧ ∃ hs', IsBench w' W.heap.size W.heap.size lv hs' C ∧ Fr (ofB W.heap.size lv hs1) w3 w' ∧ ∀ y, ofB W.heap.size lv hs' y → ofB W.heap.size lv hs1 y ∨ w3.heap.size ≤ y) := by
        obtain ⟨I2, V2, K2, U2, L2, P2, Wa, Wb⟩ := HST.out
        have := bkput_yes w3 W.heap.size W.heap.size lv hs1 c _ [true, true] e x _ DL (I2.up b3) U2 (by have := HSZ1.out; omega) (V2.up b3) D3.out HB.out.1 HB.out.2.1 (by rw [HDLN.out]; exact hq0.out) D32.out (by rw [L2]; decide) (fun d hd => by have := P2 d hd; have := HLT.out; omega) (by have := HLT.out; omega)
        rw [← HC.out] at this
        exact this
      have KU := Lib.hid (And.intro (HST.out.2.1.up b3) (HST.out.2.2.1.up b3))
      clear b3
      go_wp2_with fail
      refine Calls.mono HPUT.out ?_
      rintro r w4 ⟨rfl, hs4, I4, F4, q4⟩
      have B4 : Below W.heap.size W w4 := Fr.below BX3 F4 (by have := HSZ1.out; omega) (fun y hy => (HST.out.1.up (Below.mk rfl rfl rfl (Nat.le_refl _) (fun _ _ => rfl))).ges y hy)
      have hsz4 := F4.size
      have D4 := Lib.hid (D3.out.step F4 q4)
      have V4 := Lib.hid (KU.out.1.step F4 q4)
      have K4 := Lib.hid (KU.out.2.step F4 q4)
      have hLT4 := I4.lts
      have I4 := Lib.hid I4
      have HG := bkget_any _ _ _ _ _ _ _ _ e x I4.out HX.out.1.lv (by rw [HX.out.2.1]; decide) V4.out.bools HB.out.1 HB.out.2.1
      rw [G1.out] at HG
      have HG := Lib.hid HG
      clear F4 q4
      go_wp2_with fail
      refine Calls.mono HG.out ?_
      rintro r w5 ⟨xv, rfl, X5, b5⟩
      have X5 := X5 0 rfl
      rw [HOF.out] at X5
      have X5h := Lib.hid X5.parts
      have HSA := same14_any _ _ DL DL w5 X5.parts (D4.out.up b5).parts
      rw [decide_eq_true rfl] at HSA
      have HSA := Lib.hid HSA
      clear X5
      go_wp2_with fail
      refine Calls.mono HSA.out ?_
      rintro r w6 ⟨rfl, b6⟩
      have B6 := belT b5 b6
      have HNEXT : Hid (MJ W.heap.size W.heap.size lv (.slice (some ⟨w1.heap.size, 0, none⟩) 2 2) (.slice (some ⟨w2.heap.size, 0, none⟩) 3 3) [28, 0, (k0 : Int)] (j + 1) w6) :=
        ⟨hs4, C, I4.out.up B6, V4.out.up B6, K4.out.up B6, HX.out.1, HX.out.2.1, (fun d hd => by have := HX.out.2.2.1 d hd; omega), HWW.out.1, HWW.out.2⟩
      have hsz6 := B6.size
      have B7 := belT B4 B6
      clear b5 b6 B6
      go_wp2
      go_roundw
      case rel => exact ⟨j + 1, HLT.out, by go_num, HNEXT, B7, by omega⟩
      case measure => have := HLT.out; simp [intOf]; omega
    · have hje : j = 3 := by omega
      subst hje
      obtain ⟨hs1, c, I2, V2, _⟩ := HM.out
      have HI2 := Lib.hid I2
      have D29 := Lib.hid (sectors13_any v l 29 _ (HS.out.up BX) (by decide))
      clear I2 V2 HM
      go_wp2_with fail
      refine Calls.mono D29.out ?_
      rintro r w3 ⟨dv, rfl, D3, b3⟩
      have HP := Lib.hid (bkput_no W.heap.size (.slice (some ⟨w1.heap.size, 0, none⟩) 2 2) e x dv _ w3 D3.parts (by unfold mayB; rw [sectL_len]; rw [decide_eq_false (by omega)]; rfl))
      obtain ⟨ad, cd, rfl, _, _⟩ := D3.shape
      clear D3
      go_wp2_with fail
      refine Calls.mono HP.out ?_
      rintro r w4 ⟨rfl, b4⟩
      go_wp2_with fail
      refine Calls.mono (wakes19_any w4) ?_
      rintro r w5 ⟨rfl, b5⟩
      go_wp2
      go_ret
      exact ⟨rfl, belT BX (belT b3 (belT b4 b5))⟩
end Go.Proofs.Ytenjpldinnbcbaa
