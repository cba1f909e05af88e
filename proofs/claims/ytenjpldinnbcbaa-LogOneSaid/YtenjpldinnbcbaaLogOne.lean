/- The law LogOne (chapter 12). True at every input. -/
import Derived.Test.YtenjpldinnbcbaaLaW
import Derived.Deep.CutRange
namespace Go.Proofs.Ytenjpldinnbcbaa
open Go.RowKit C
set_option linter.unusedVariables false
set_option linter.unusedSimpArgs false
set_option maxRecDepth 100000
set_option maxHeartbeats 2000000

theorem rok_three : rok 3 [] = true := rfl
theorem rok_zero : rok 0 [] = false := rfl
theorem fresh3_f (d : Nat) : B.failB (B.fresh 3) d = false := by unfold B.failB; rw [B.fresh_at]; rfl
theorem empty_b : ∀ x ∈ ([] : List RI), ∀ y ∈ x.b, y < 256 := fun x hx => by cases hx
theorem one_c1f (d : Nat) (hd : d < 3) : B.failB (B.putR (B.fresh 3) [true, true, true] (renc 3 [])) d = false := by
  obtain ⟨_, _, _, _, f1, _, _⟩ := B.putR_spec (B.LI.fresh 3).pw [true, true, true] (all := renc 3 []) (renc_32 (by decide) (rok_fine rok_three)) (renc_byte empty_b) (renc_len (by decide))
  rw [f1 d (by rw [B.fresh_len]; exact hd)]
  exact fresh3_f d
theorem one_c1r (d : Nat) (hd : d < 3) : B.recR (B.putR (B.fresh 3) [true, true, true] (renc 3 [])) d = (3, []) := by
  rw [B.recR_put (B.LI.fresh 3).pw _ rok_three empty_b (by rw [B.fresh_len]; exact hd), if_pos ⟨live3 hd, fresh3_f d⟩]
theorem put_f {c : B.Bn} {W : Int} (h : B.LI 3 W c) (lv : List Bool) {s : Int} {L : List RI} (hk : rok s L = true) (hb : ∀ x ∈ L, ∀ y ∈ x.b, y < 256) (hf : ∀ d, d < 3 → B.failB c d = false) (d : Nat) (hd : d < 3) : B.failB (B.putR c lv (renc s L)) d = false := by
  obtain ⟨_, hn3, _⟩ := (rok_iff s L).1 hk
  obtain ⟨_, _, _, _, f1, _, _⟩ := B.putR_spec h.pw lv (all := renc s L) (renc_32 hn3 (rok_fine hk)) (renc_byte hb) (renc_len hn3)
  rw [f1 d (by rw [h.len]; exact hd)]
  exact hf d hd
theorem rsame_self (s : Int) (L : List RI) : rsame s L s L = true := decide_eq_true ⟨rfl, rfl⟩
attribute [local irreducible] Go.Calls Byt Own Parts PA BA Bools OwnD OwnT OwnZ Items ItemsF IA OwnI Ints
theorem logOne_law (W : World) (lw : Value) (l : List Int) (hl : Ints W lw l) (hb : l.length * 8 ≤ 140737488351232) (m : Int) (hm : -9223372036854775808 ≤ m ∧ m ≤ 9223372036854775807) (only : Int) (ho : -9223372036854775808 ≤ only ∧ only ≤ 9223372036854775807) (lose : Int) (hz : -9223372036854775808 ≤ lose ∧ lose ≤ 9223372036854775807) :
    Calls Try.prog 8 #[lw, .int .i64 m, .int .i64 only, .int .i64 lose] W fun e W' => e = .returned (.bool true) ∧ Below W.heap.size W W' := by
  obtain ⟨k, ek, lk, Wk⟩ := within_nat m 4 (by decide) (by decide) hm
  clear ek
  obtain ⟨o, eo, lo, Wo⟩ := within_nat only 3 (by decide) (by decide) ho
  clear eo
  obtain ⟨z, ez, lz, Wz⟩ := within_nat lose 3 (by decide) (by decide) hz
  clear ez
  have HL := Lib.hid hl
  obtain ⟨al0, cl0, rfl, _, _⟩ := hl.shapeI
  have hk4 : withinI (((k : Nat) : Int).tdiv 4) 20 < 15 := by
    have : k = 0 ∨ k = 1 ∨ k = 2 ∨ k = 3 := by omega
    rcases this with rfl | rfl | rfl | rfl <;> decide
  have HK4 := Lib.hid hk4
  have ho3 : o < 3 := by omega
  have HO3 := Lib.hid ho3
  have hz3 : z < 3 := by omega
  have HZ3 := Lib.hid hz3
  obtain ⟨b0, hb0⟩ : ∃ b, ((o : Int) == 0) = b := ⟨_, rfl⟩
  obtain ⟨b1, hb1⟩ : ∃ b, ((o : Int) == 1) = b := ⟨_, rfl⟩
  obtain ⟨b2, hb2⟩ : ∃ b, ((o : Int) == 2) = b := ⟨_, rfl⟩
  have HBB : Hid ([b0, b1, b2] = lvG o) := by
    show _ = _
    subst hb0; subst hb1; subst hb2
    have : o = 0 ∨ o = 1 ∨ o = 2 := by omega
    rcases this with rfl | rfl | rfl <;> rfl
  clear hm ho hz hl hk4 ho3 hz3 lz
  obtain ⟨n, hn⟩ : ∃ n, n = l.length := ⟨_, rfl⟩
  rw [← hn] at HL ⊢
  clear hn
  go_enter Try.func8, Try.ntmps8
  go_wp2_with fail
  refine Calls.mono (bnew_any W 3 (by decide) (by decide)) ?_
  rintro r w1 ⟨rfl, ⟨lv, hs, I1⟩, bl1⟩
  have hlt1 := Lib.hid I1.lts
  have hsz1 : W.heap.size < w1.heap.size := I1.lt
  have I1 := Lib.hid I1
  have BL1 := Lib.hid bl1
  clear bl1
  go_wp2_with fail
  refine Calls.mono (Wk.out _) ?_
  rintro r w2 ⟨rfl, rfl⟩
  go_wp2_with fail
  refine Calls.mono (of11_any 9 (k : Int) _ l _ (by unfold i64b; omega) (by unfold i64b; omega) (HL.out.up BL1.out)) ?_
  intro r w2 hOf
  obtain ⟨s, v, T, rfl, hsi, OT, fT, lT, sT, bl2⟩ := hOf
  have hs10 : s = 10 := (sT HK4.out).trans (by decide)
  subst hs10
  obtain ⟨L, hL⟩ : ∃ L, L = T.map Prod.fst := ⟨_, rfl⟩
  have IA2 := OT.ia fT (S := ofB W.heap.size lv hs) (fun y hy => by have := hlt1.out y hy; omega)
  rw [← hL] at IA2
  have hML : T.length = L.length := by rw [hL, List.length_map]
  obtain ⟨av, cv, rfl, _, _, _⟩ := OT.shape
  obtain ⟨M, hM⟩ : ∃ M, M = T.length := ⟨_, rfl⟩
  rw [← hM] at IA2 ⊢
  have IA2 := Lib.hid IA2
  have BL2 := Lib.hid (belT BL1.out bl2)
  have I2 := Lib.hid (I1.out.up bl2)
  have hsz2 : w1.heap.size ≤ w2.heap.size := bl2.size
  have HBY : Hid (∀ x ∈ L, ∀ y ∈ x.b, y < 256) := Lib.hid IA2.out.items.bytes
  clear OT fT lT sT bl2 hL hML hM hsi
  have HCK := rcheck_any 10 _ L (w2.alloc (.cells #[.int .i64 10, .slice av M cv] 59)) (by unfold i64b; omega) (IA2.out.items.up (belA1 (belR _)))
  by_cases hk : rok 10 L = true
  · have HK := Lib.hid hk
    rw [rerr_yes hk] at HCK
    have HCK := Lib.hid HCK
    clear hk
    go_wp2_with fail
    refine Calls.mono HCK.out ?_
    rintro r w3 ⟨rfl, bl3⟩
    have B3 := belT (belA1 (belR w2)) bl3
    have BX3 := (Box.new w2 [.int .i64 10, .slice av M cv] 59).fr (Fr.of_below (S := fun _ => False) bl3) id
    have hsz3 := bl3.size
    obtain ⟨X5, hX5⟩ : ∃ X5, X5 = (w3.alloc (.cells #[.bool true, .bool true, .bool true] 4)).alloc (.cells #[.bool b0, .bool b1, .bool b2] 4) := ⟨_, rfl⟩
    have BX5 : Below w3.heap.size w3 X5 := by rw [hX5]; exact belA2 (belR _)
    have TA := (OwnT.lit w3 #[.bool true, .bool true, .bool true] [true, true, true] (n := 3) (g := w3.heap.size) rfl rfl rfl (by decide)).up (belA1 (o1 := .cells #[.bool b0, .bool b1, .bool b2] 4) (belR _))
    have TB := OwnT.lit (w3.alloc (.cells #[.bool true, .bool true, .bool true] 4)) #[.bool b0, .bool b1, .bool b2] [b0, b1, b2] (n := 3) (g := w3.heap.size + 1) (by simp) rfl rfl (by show 3 ≤ 1048576; decide)
    rw [HBB.out] at TB
    rw [← hX5] at TA TB
    have hszX := hsz3
    simp only [World.size_alloc] at hszX
    have hS3 : ∀ y, ofB W.heap.size lv hs y → y < w3.heap.size := fun y hy => by have := hlt1.out y hy; omega
    have L5 : LO W W.heap.size lv hs (B.fresh 3) w2.heap.size 10 (.slice av M cv) L (.slice (some ⟨w3.heap.size, 0, none⟩) 3 3) (.slice (some ⟨w3.heap.size + 1, 0, none⟩) 3 3) [true, true, true] (lvG o) X5 :=
      ⟨(I2.out.up B3).up BX5, BX3.fr (Fr.of_below (S := fun _ => False) BX5) id, (fun h => by have := hlt1.out _ h; omega), by have := BX5.size; omega, (IA2.out.up B3).up BX5, TA.ba hS3, TB.ba (fun y hy => by have := hS3 y hy; simp; omega), belT (belT BL2.out B3) BX5⟩
    have L5 := Lib.hid L5
    have HX5 := Lib.hid hX5
    have LI0 := B.LI.fresh 3
    have HP1 := lput_yes X5 _ _ _ _ _ _ _ 3 (.slice none 0 0) [] L5.out.ben LI0.pw L5.out.bel.size L5.out.al (Items.nil _) rok_three (by rw [LI0.len]; decide) LI0.p (by have := LI0.w; omega)
    have HP1 := Lib.hid HP1
    clear hX5 BX5 TA TB BX3 B3 bl3 hS3 I2 HCK LI0
    go_wp2_with fail
    refine Calls.mono (Wo.out _) ?_
    rintro r w4 ⟨rfl, rfl⟩
    go_wp2_with fail
    rw [← HX5.out]
    refine Calls.mono HP1.out ?_
    rintro r w6 ⟨rfl, hs6, I6, F6, q6⟩
    have L6 := Lib.hid (L5.out.step I6 F6 q6)
    have LI1 := Lib.hid ((B.LI.fresh 3).put [true, true, true] rok_three empty_b)
    have HP2 := lput_yes w6 _ _ _ _ _ _ _ 10 _ L L6.out.ben LI1.out.pw L6.out.bel.size L6.out.li L6.out.its.items HK.out (by rw [LI1.out.len]; decide) LI1.out.p (by have := LI1.out.w; omega)
    have HP2 := Lib.hid HP2
    obtain ⟨c0, c1⟩ := L6.out.cells
    clear I6 F6 q6 HP1 HX5 L5
    go_wp2_with fail
    refine Calls.mono HP2.out ?_
    rintro r w7 ⟨rfl, hs7, I7, F7, q7⟩
    have L7 := Lib.hid (L6.out.step I7 F7 q7)
    have LI2 := Lib.hid (LI1.out.put (lvG o) HK.out HBY.out)
    have HF2 : Hid (∀ d, d < 3 → B.failB (B.putR (B.putR (B.fresh 3) [true, true, true] (renc 3 [])) (lvG o) (renc 10 L)) d = false) := Lib.hid (put_f LI1.out (lvG o) HK.out HBY.out one_c1f)
    have HG := lget_any w7 _ _ _ _ _ _ _ L7.out.ben LI2.out.pw.lv (by rw [LI2.out.len]; decide) L7.out.al.bools
    rw [LI2.out.len, one_best LI1.out one_c1f one_c1r HK.out HBY.out HO3.out] at HG
    have HG := Lib.hid HG
    clear I7 F7 q7 HP2 L6 c0 c1
    obtain ⟨C2, hC2⟩ : ∃ C2, C2 = B.putR (B.putR (B.fresh 3) [true, true, true] (renc 3 [])) (lvG o) (renc 10 L) := ⟨_, rfl⟩
    rw [← hC2] at L7 LI2 HF2
    clear hC2 LI1
    go_wp2_with fail
    refine Calls.mono HG.out ?_
    rintro r w8 ⟨vx, rfl, IX, bl8⟩
    obtain ⟨ax, cx, rfl, _, _, _⟩ := IX.items.shape
    obtain ⟨M2, hM2⟩ : ∃ M2, M2 = (10, L).2.length := ⟨_, rfl⟩
    rw [← hM2] at IX ⊢
    clear hM2
    have IX : IA (ofB W.heap.size lv hs7) w8 (.slice ax M2 cx) L := IX.ia (fun y hy => by have := L7.out.ben.lts y hy; omega)
    have BX8 := Box.new w8 [.int .i64 10, .slice ax M2 cx] 59
    have L8 := Lib.hid ((L7.out.up bl8).up (belA1 (o1 := .cells #[.int .i64 10, .slice ax M2 cx] 59) (belR _)))
    have IX8 := Lib.hid (IX.up (belA1 (o1 := .cells #[.int .i64 10, .slice ax M2 cx] 59) (belR _)))
    have HS1 := rsame_any 10 10 _ _ L L _ IX8.out.items L8.out.its.items (by unfold i64b; omega) (by unfold i64b; omega)
    rw [rsame_self] at HS1
    have HS1 := Lib.hid HS1
    have BX8 := Lib.hid BX8
    obtain ⟨d0, d1⟩ := L8.out.cells
    obtain ⟨⟨x0, x1⟩, _, _⟩ := BX8.out.two
    clear IX bl8 HG L7
    go_wp2_with fail
    refine Calls.mono HS1.out ?_
    rintro r w9 ⟨rfl, bl9⟩
    have L9 := Lib.hid (L8.out.up bl9)
    have IX9 := Lib.hid (IX8.out.up bl9)
    have BX9 := Lib.hid (BX8.out.fr (Fr.of_below (S := fun _ => False) bl9) id)
    have HP3 := lput_yes w9 _ _ _ _ _ _ _ 10 _ L L9.out.ben LI2.out.pw L9.out.bel.size L9.out.al IX9.out.items HK.out (by rw [LI2.out.len]; decide) LI2.out.p (by have := LI2.out.w; omega)
    have HP3 := Lib.hid HP3
    clear d0 d1 x0 x1 bl9 HS1 L8 IX8 BX8
    obtain ⟨⟨x0, x1⟩, _, _⟩ := BX9.out.two
    go_wp2_with fail
    refine Calls.mono HP3.out ?_
    rintro r w10 ⟨rfl, hs10, I10, F10, q10⟩
    have L10 := Lib.hid (L9.out.step I10 F10 q10)
    have LI3 := Lib.hid (LI2.out.put [true, true, true] HK.out HBY.out)
    have HFA := Lib.hid (bfail_any w10 _ _ _ _ _ z L10.out.ben (by rw [LI3.out.len]; exact HZ3.out))
    clear I10 F10 q10 HP3 L9 x0 x1 IX9 BX9
    go_wp2_with fail
    refine Calls.mono (Wz.out _) ?_
    rintro r w11 ⟨rfl, rfl⟩
    go_wp2_with fail
    refine Calls.mono HFA.out ?_
    rintro r w12 ⟨rfl, hs12, I12, F12, q12⟩
    have L12 := Lib.hid (L10.out.step I12 F12 q12)
    have L12 : Hid (LO W W.heap.size lv hs12 (B.failD (B.putR C2 [true, true, true] (renc 10 L)) z) w2.heap.size 10 (.slice av M cv) L (.slice (some ⟨w3.heap.size, 0, none⟩) 3 3) (.slice (some ⟨w3.heap.size + 1, 0, none⟩) 3 3) [true, true, true] (lvG o) w12) := L12
    have LI4 := Lib.hid (LI3.out.fail z)
    have HG := lget_any w12 _ _ _ _ _ _ _ L12.out.ben LI4.out.pw.lv (by rw [LI4.out.len]; decide) L12.out.al.bools
    rw [LI4.out.len, one_lost LI2.out HF2.out HK.out HBY.out HZ3.out] at HG
    have HG := Lib.hid HG
    clear I12 F12 q12 HFA L10 LI3 LI2 HF2
    obtain ⟨C4, hC4⟩ : ∃ C4, C4 = B.failD (B.putR C2 [true, true, true] (renc 10 L)) z := ⟨_, rfl⟩
    rw [← hC4] at L12 LI4
    clear hC4
    go_wp2_with fail
    refine Calls.mono HG.out ?_
    rintro r w13 ⟨vy, rfl, IY, bl13⟩
    obtain ⟨ay, cy, rfl, _, _, _⟩ := IY.items.shape
    obtain ⟨M3, hM3⟩ : ∃ M3, M3 = (10, L).2.length := ⟨_, rfl⟩
    rw [← hM3] at IY ⊢
    clear hM3
    have IY : IA (ofB W.heap.size lv hs12) w13 (.slice ay M3 cy) L := IY.ia (fun y hy => by have := L12.out.ben.lts y hy; omega)
    have BX13 := Box.new w13 [.int .i64 10, .slice ay M3 cy] 59
    have L13 := Lib.hid ((L12.out.up bl13).up (belA1 (o1 := .cells #[.int .i64 10, .slice ay M3 cy] 59) (belR _)))
    have IY13 := Lib.hid (IY.up (belA1 (o1 := .cells #[.int .i64 10, .slice ay M3 cy] 59) (belR _)))
    have HS2 := rsame_any 10 10 _ _ L L _ IY13.out.items L13.out.its.items (by unfold i64b; omega) (by unfold i64b; omega)
    rw [rsame_self] at HS2
    have HS2 := Lib.hid HS2
    obtain ⟨d0, d1⟩ := L13.out.cells
    obtain ⟨⟨x0, x1⟩, _, _⟩ := BX13.two
    clear IY bl13 HG L12 BX13
    go_wp2_with fail
    refine Calls.mono HS2.out ?_
    rintro r w14 ⟨rfl, bl14⟩
    have B14 := Lib.hid (belT L13.out.bel bl14)
    clear d0 d1 x0 x1 bl14 HS2 L13 IY13
    go_wp2_with fail
    refine Calls.mono (lput_no _ _ _ 0 _ [] (by unfold i64b; omega) (Items.nil _) rok_zero) ?_
    rintro r w15 ⟨rfl, bl15⟩
    have B15 := Lib.hid (belT B14.out bl15)
    clear bl15 B14
    go_wp2_with fail
    refine Calls.mono (lapply_no _ _ _ 0 _ [] (by unfold i64b; omega) (Items.nil _) rok_zero) ?_
    rintro r w16 ⟨rfl, bl16⟩
    have B16 := Lib.hid (belT B15.out bl16)
    clear bl16 B15
    go_wp2_with fail
    refine Calls.mono (wakes12_any _) ?_
    rintro r w17 ⟨rfl, bl17⟩
    have B17 := Lib.hid (belT B16.out bl17)
    clear bl17 B16
    go_wp2
    go_ret
    exact ⟨rfl, B17.out⟩
  · have hk : rok 10 L = false := by simpa using hk
    rw [rerr_no hk] at HCK
    have HCK := Lib.hid HCK
    have I2 := I2.out.lt
    clear hk
    go_wp2_with fail
    refine Calls.mono HCK.out ?_
    rintro r w3 ⟨rfl, bl3⟩
    have B3 := belT BL2.out (belT (belA1 (belR w2)) bl3)
    clear bl3
    go_wp2_with fail
    refine Calls.mono (wakes12_any _) ?_
    rintro r w4 ⟨rfl, bl4⟩
    go_wp2
    go_ret
    exact ⟨rfl, belT B3 bl4⟩
end Go.Proofs.Ytenjpldinnbcbaa
