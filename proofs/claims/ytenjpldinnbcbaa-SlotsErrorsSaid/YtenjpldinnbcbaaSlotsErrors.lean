/- The law SlotsErrors (chapter 10). True at every input. -/
import Derived.Test.YtenjpldinnbcbaaSlE
namespace Go.Proofs.Ytenjpldinnbcbaa
open Go.RowKit C
set_option linter.unusedVariables false
set_option linter.unusedSimpArgs false
set_option maxRecDepth 100000
set_option maxHeartbeats 2000000
attribute [local irreducible] Go.Calls Byt Own Parts PA BA Bools OwnD OwnT OwnS
theorem slotsErrors_false (W : World) (n : Int) (hn : -9223372036854775808 ≤ n ∧ n ≤ 9223372036854775807) :
    Calls Try.prog 9 #[.int .i64 n, .bool false] W fun e W' => e = .returned (.bool true) ∧ Below W.heap.size W W' := by
  obtain ⟨G, ep, hG, hep, hone⟩ := one_fix n hn
  obtain ⟨s, hs⟩ : ∃ s, s = supG G ep 3 := ⟨_, rfl⟩
  have hok : s.ok = true := by rw [hs]; exact supG_ok hG hep (by decide) (by decide)
  have hsl : slotN s = 1 := by rw [hs]; rfl
  have hgn : s.gen = 3 := by rw [hs]; rfl
  have h1s := hone 3
  rw [← hs] at h1s
  obtain ⟨m1, m2, m3⟩ := B.mid_best (lvs := [false, true, false]) rfl rfl rfl hok hsl hgn
  have hcn := B.cntS_fresh [false, true, false] rfl rfl rfl
  obtain ⟨u1, w1, l1, f1, k1, p1⟩ := B.store_spec (B.Up.fresh 3).pw [false, true, false] (a := 1) (by decide) (x := s.enc) s.enc_len s.enc_byte
  have hP1 : ∀ d ∈ (B.storeB (B.fresh 3) [false, true, false] 1 s.enc).ds, d.p.length ≤ 1000000 := fun d hd => by
    obtain ⟨i, hi, rfl⟩ := List.getElem_of_mem hd
    have hi3 : i < (B.fresh 3).ds.length := by rw [← l1]; exact hi
    have := p1 i hi3
    rw [B.at1_eq hi, B.at1_eq hi3] at this
    have := B.fresh_p 3 _ (List.getElem_mem hi3)
    omega
  rw [hcn] at w1
  have w1 : (B.storeB (B.fresh 3) [false, true, false] 1 s.enc).writes = 1 := w1
  rw [B.fresh_len] at l1
  obtain ⟨C1, hC1⟩ : ∃ C1, C1 = B.storeB (B.fresh 3) [false, true, false] 1 s.enc := ⟨_, rfl⟩
  rw [← hC1] at m1 m2 m3 u1 w1 l1 hP1
  obtain ⟨C2, hC2⟩ : ∃ C2, C2 = { C1 with ds := C1.ds.set 1 D.fail } := ⟨_, rfl⟩
  have u2 : B.Pw C2 := by rw [hC2]; exact B.pw_fail u1 1
  have l2 : C2.ds.length = 3 := by rw [hC2]; show (C1.ds.set 1 D.fail).length = 3; rw [List.length_set, l1]
  have w2 : C2.writes = 1 := by rw [hC2]; exact w1
  have hP2 : ∀ d ∈ C2.ds, d.p.length ≤ 1000000 := fun d hd => by
    rw [hC2] at hd
    rcases List.mem_or_eq_of_mem_set hd with h1 | h1
    · exact hP1 d h1
    · rw [h1]; decide
  have hf2 : B.failB C2 0 = false := by
    have e : B.failB C2 0 = (B.at1 C2 0).f := rfl
    rw [e, hC2, B.at1_set (b := C1) (by rw [l1]; decide) C1.writes, if_neg (by decide)]
    have := f1 0 (by rw [B.fresh_len]; decide)
    rw [← hC1, B.fresh_failB] at this
    exact this
  rw [← hC2] at m3
  obtain ⟨u3, w3, l3, f3, k3, p3⟩ := B.store_spec u2 [false, true, false] (a := 1) (by decide) (x := s.enc) s.enc_len s.enc_byte
  have hcn2 := B.cntS_le C2 [false, true, false] C2.ds.length
  have hP3 : ∀ d ∈ (B.storeB C2 [false, true, false] 1 s.enc).ds, d.p.length ≤ 1000000 := fun d hd => by
    obtain ⟨i, hi, rfl⟩ := List.getElem_of_mem hd
    have hi3 : i < C2.ds.length := by rw [← l3]; exact hi
    have := p3 i hi3
    rw [B.at1_eq hi, B.at1_eq hi3] at this
    have := hP2 _ (List.getElem_mem hi3)
    omega
  have hf3 := f3 0 (by rw [l2]; decide)
  rw [hf2] at hf3
  have hw3 : 0 ≤ (B.storeB C2 [false, true, false] 1 s.enc).writes ∧ (B.storeB C2 [false, true, false] 1 s.enc).writes ≤ 100 := by rw [w3, w2]; omega
  obtain ⟨C3, hC3⟩ : ∃ C3, C3 = B.storeB C2 [false, true, false] 1 s.enc := ⟨_, rfl⟩
  rw [← hC3] at u3 l3 hP3 hf3 hw3
  rw [l2] at l3
  have hq := fun w => seq_run s s w
  rw [(Sup.same_iff s s).2 rfl] at hq
  have hx1 : B.write { C3 with left := 0 } ((0 : Nat) : Int) ((0 : Nat) : Int) (secL 1) = { C3 with left := 0, down := true } := by
    have h0 : 0 < C3.ds.length := by omega
    have hff : (C3.ds[0]).f = false := by rw [← B.at1_eq h0]; exact hf3
    exact (B.write_spent (b := { C3 with left := 0 }) (i := 0) (a := 0) (d := C3.ds[0]) u3.down (List.getElem?_eq_getElem h0) hff (by decide) (secL_len 1) rfl).2
  obtain ⟨Z, hZ⟩ : ∃ Z, Z = Sup.zero := ⟨_, rfl⟩
  have hz0 := fun (g : Nat) (vv : Value) (w : World) => store_no g vv Sup.zero w zero_sin rfl
  have H1 := Lib.hid (And.intro u1 (And.intro w1 (And.intro l1 hP1)))
  have H2 := Lib.hid (And.intro u2 (And.intro w2 (And.intro l2 hP2)))
  have H3 := Lib.hid (And.intro u3 (And.intro hw3 (And.intro l3 hP3)))
  have HM := Lib.hid (And.intro m1 (And.intro m2 m3))
  have HC1 := Lib.hid hC1
  have HC2 := Lib.hid hC2
  have HC3 := Lib.hid hC3
  have HX1 := Lib.hid hx1
  have HOK := Lib.hid hok
  have HSL := Lib.hid hsl
  have HGN := Lib.hid hgn
  have HST := fun (w : World) base g lv hs b vv lvs h hU hb0 hL hn hp hw => store_yes w base g lv hs b vv lvs s h hU hb0 hL hok hn hp hw
  rw [hsl] at HST
  have HSD := fun (w : World) base g lv hs b vv h hd hb0 hL hn hn8 hl hp hw => store_down w base g lv hs b vv s h hd hb0 hL hok hn hn8 hl hp hw
  have HBY := fun (w : World) base g lv hs b h hL hn hb => best_yes w base g lv hs b h hL hn s hb (by rw [hgn]; decide)
  unfold sv at hq h1s hz0 HST HSD HBY
  unfold Sup.zero Geo.zero at hz0
  dsimp only at hz0
  have HONE := Lib.hid h1s
  have HQ := Lib.hid hq
  have HZ0 := Lib.hid hz0
  have HST := Lib.hid HST
  have HSD := Lib.hid HSD
  have HBY := Lib.hid HBY
  clear hn hG hep hone hs hok hsl hgn h1s m1 m2 m3 hcn u1 w1 l1 f1 k1 p1 hP1 hC1 hC2 u2 w2 l2 hP2 hf2 u3 w3 l3 f3 k3 p3 hcn2 hP3 hf3 hw3 hC3 hq hx1 hz0 hZ
  go_enter Try.func9, Try.ntmps9
  go_wp2_with fail
  refine Calls.mono (bnew_any W 3 (by decide) (by decide)) ?_
  rintro r w1 ⟨rfl, ⟨lv, hs, I1⟩, b1⟩
  have HLT1 := Lib.hid I1.lts
  have hsz1 : W.heap.size < w1.heap.size := I1.lt
  have I1 := Lib.hid I1
  go_wp2_with fail
  refine Calls.mono (HZ0.out _ _ _) ?_
  rintro r w2 ⟨rfl, b2⟩
  have B2 := belT (belA1 (belR w1)) b2
  have HWC := bwrites_any w2 _ _ _ _ _ (I1.out.up B2)
  rw [show (B.fresh 3).writes = 0 from rfl] at HWC
  have HWC := Lib.hid HWC
  clear b2
  go_wp2_with fail
  refine Calls.mono HWC.out ?_
  rintro r w3 ⟨rfl, rfl⟩
  have HLT12 : Hid (∀ y, ofB W.heap.size lv hs y → y < w2.heap.size) := Lib.hid (fun y hy => by have := HLT1.out y hy; have := B2.size; omega)
  have T3 := Lib.hid (OwnT.lit w2 #[.bool false, .bool true, .bool false] [false, true, false] (n := 3) (g := w2.heap.size) rfl rfl rfl (by decide))
  go_wp2_with fail
  refine Calls.mono (HONE.out _) ?_
  rintro r w4 ⟨rfl, b4⟩
  have hz4 : w2.heap.size + 1 ≤ w4.heap.size := by have := b4.size; simp at this; omega
  have B24 := belT (belA1 (belR w2)) b4
  go_wp2_with fail
  obtain ⟨X4, hX4⟩ : ∃ X4, X4 = w4.alloc (.cells #[.int .i64 s.gen, .int .i64 s.a.l, .int .i64 s.a.d, .int .i64 s.a.c, .int .i64 s.b.l, .int .i64 s.b.d, .int .i64 s.b.c, .bool s.run, .int .i64 s.win, .int .i64 s.ep, .int .i64 s.out] 72) := ⟨_, rfl⟩
  have bx4 : Below w4.heap.size w4 X4 := by rw [hX4]; exact belA1 (belR _)
  have hsx4 : X4.heap.size = w4.heap.size + 1 := by rw [hX4]; simp
  have BX4 := Lib.hid (belT b1 (belT B2 (belT B24 bx4)))
  have S4 : Hid (SB W.heap.size W.heap.size lv hs (B.fresh 3) (.slice (some ⟨w2.heap.size, 0, none⟩) 3 3) [false, true, false] w4.heap.size s X4) := by
    have hsz2 := B2.size
    refine ⟨I1.out.up (belT B2 (belT B24 bx4)), ?_, ?_, fun h => by have := HLT1.out _ h; omega, by omega⟩
    · have := ((T3.out.up b4).up bx4).ba HLT12.out
      exact this
    · rw [hX4]; exact Box.new w4 (scl s) 72
  rw [← hX4]
  have HP5 := HST.out X4 _ _ _ _ _ _ _ S4.out.bench (B.Up.fresh 3).pw (by have := BX4.out.size; omega) S4.out.live (by rw [B.fresh_len]; decide) (B.fresh_p 3) (B.fresh_w 3)
  rw [← HC1.out] at HP5
  have HP5 := Lib.hid HP5
  clear hX4 b4 B24 bx4 b1 B2
  refine Calls.mono HP5.out ?_
  rintro r w5 ⟨rfl, hs5, I5, F5, q5⟩
  have S5 := Lib.hid (S4.out.step I5 F5 q5)
  have B5 := Lib.hid (Fr.below BX4.out F5 (by have := BX4.out.size; omega) S4.out.bench.ges)
  have HWC := bwrites_any w5 _ _ _ _ _ S5.out.bench
  rw [H1.out.2.1] at HWC
  have HWC := Lib.hid HWC
  clear I5 F5 q5 HP5
  go_wp2_with fail
  refine Calls.mono HWC.out ?_
  rintro r w6 ⟨rfl, rfl⟩
  have HB5 := HBY.out w5 _ _ _ _ _ S5.out.bench H1.out.1.lv (by rw [H1.out.2.2.1]; decide) (by rw [H1.out.2.2.1]; exact HM.out.1)
  rw [H1.out.2.2.1, HM.out.2.1] at HB5
  have HB5 := Lib.hid HB5
  go_wp2_with fail
  refine Calls.mono HB5.out ?_
  rintro r w7 ⟨hv, rfl, T7, b7⟩
  obtain ⟨av, cv, rfl, _, _⟩ := T7.bools.shapeB
  obtain ⟨bv, ov, x0, e0, d0, y0⟩ := T7.bools.cellAt (k := 0) (by decide)
  subst e0
  obtain ⟨bv', ov', x1, e1, d1, y1⟩ := T7.bools.cellAt (k := 1) (by decide)
  cases e1
  obtain ⟨bv', ov', x2, e2, d2, y2⟩ := T7.bools.cellAt (k := 2) (by decide)
  cases e2
  cases y0.out
  cases y1.out
  cases y2.out
  rw [Nat.add_zero] at d0
  have S7 := Lib.hid (S5.out.up b7)
  obtain ⟨f0, f1, f2, f3, f4, f5, f6, f7, f8, f9, f10⟩ := S7.out.box.sup
  have hl7 : w4.heap.size < w7.heap.size := S7.out.lt
  have hbl : bv < w7.heap.size := T7.lts _ rfl
  have hqq := HQ.out
  have HFA := bfail_any _ _ _ _ _ _ 1 (S7.out.bench.up (belA1 (o1 := .cells #[.int .i64 s.gen, .int .i64 s.a.l, .int .i64 s.a.d, .int .i64 s.a.c, .int .i64 s.b.l, .int .i64 s.b.d, .int .i64 s.b.c, .bool s.run, .int .i64 s.win, .int .i64 s.ep, .int .i64 s.out] 72) (belR w7))) (by rw [H1.out.2.2.1]; decide)
  rw [← HC2.out] at HFA
  have HFA := Lib.hid HFA
  have S7A := Lib.hid (S7.out.up (belA1 (o1 := .cells #[.int .i64 s.gen, .int .i64 s.a.l, .int .i64 s.a.d, .int .i64 s.a.c, .int .i64 s.b.l, .int .i64 s.b.d, .int .i64 s.b.c, .bool s.run, .int .i64 s.win, .int .i64 s.ep, .int .i64 s.out] 72) (belR w7)))
  have B7A := Lib.hid (belA1 (o1 := .cells #[.int .i64 s.gen, .int .i64 s.a.l, .int .i64 s.a.d, .int .i64 s.a.c, .int .i64 s.b.l, .int .i64 s.b.d, .int .i64 s.b.c, .bool s.run, .int .i64 s.win, .int .i64 s.ep, .int .i64 s.out] 72) (belT B5.out b7))
  go_wp2_with fail
  refine Calls.mono HFA.out ?_
  clear d0 d1 d2 f0 f1 f2 f3 f4 f5 f6 f7 f8 f9 f10 T7 b7 S7 hqq
  rintro r w8 ⟨rfl, hs8, I8, F8, q8⟩
  have S8 := Lib.hid (S7A.out.step I8 F8 q8)
  have B8 := Lib.hid (Fr.below B7A.out F8 (by have := B7A.out.size; omega) S7A.out.bench.ges)
  have HB8 := best_no w8 _ _ _ _ _ S8.out.bench H2.out.1.lv (by rw [H2.out.2.2.1]; decide) (by rw [H2.out.2.2.1]; exact HM.out.2.2)
  unfold sv Sup.zero Geo.zero at HB8
  dsimp only at HB8
  have HB8 := Lib.hid HB8
  clear I8 F8 q8 HFA
  go_wp2_with fail
  refine Calls.mono HB8.out ?_
  rintro r w9 ⟨rfl, b9⟩
  have S9 := Lib.hid (S8.out.up (belT b9 (belA1 (o1 := .cells #[.int .i64 0, .int .i64 0, .int .i64 0, .int .i64 0, .int .i64 0, .int .i64 0, .int .i64 0, .bool false, .int .i64 0, .int .i64 0, .int .i64 0] 72) (belR w9))))
  have B9 := Lib.hid (belT B8.out (belT b9 (belA1 (o1 := .cells #[.int .i64 0, .int .i64 0, .int .i64 0, .int .i64 0, .int .i64 0, .int .i64 0, .int .i64 0, .bool false, .int .i64 0, .int .i64 0, .int .i64 0] 72) (belR w9))))
  obtain ⟨Y9, hY9⟩ : ∃ Y9, Y9 = w9.alloc (.cells #[.int .i64 0, .int .i64 0, .int .i64 0, .int .i64 0, .int .i64 0, .int .i64 0, .int .i64 0, .bool false, .int .i64 0, .int .i64 0, .int .i64 0] 72) := ⟨_, rfl⟩
  rw [← hY9] at S9 B9
  have HY9 := Lib.hid hY9
  obtain ⟨f0, f1, f2, f3, f4, f5, f6, f7, f8, f9, f10⟩ := S9.out.box.sup
  have HPA := HST.out Y9 _ _ _ _ _ _ _ S9.out.bench H2.out.1 (by have := B9.out.size; omega) S9.out.live (by rw [H2.out.2.2.1]; decide) H2.out.2.2.2 (by rw [H2.out.2.1]; decide)
  rw [← HC3.out] at HPA
  have HPA := Lib.hid HPA
  clear b9 hY9
  go_upto_region 17 with (fail)
  rw [← HY9.out]
  go_wp2_with fail
  refine Calls.mono HPA.out ?_
  clear f0 f1 f2 f3 f4 f5 f6 f7 f8 f9 f10
  rintro r wa ⟨rfl, hsa, Ia, Fa, qa⟩
  have SA := Lib.hid (S9.out.step Ia Fa qa)
  have BA1 := Lib.hid (Fr.below B9.out Fa (by have := B9.out.size; omega) S9.out.bench.ges)
  have HLM := Lib.hid (blimit_any wa _ _ _ _ _ 0 SA.out.bench (by decide))
  clear Ia Fa qa HPA
  go_wp2_with fail
  refine Calls.mono HLM.out ?_
  rintro r wb ⟨rfl, Ib, Fb⟩
  rw [if_neg (by decide)] at Ib
  have Fb' : Fr (ofB W.heap.size lv hsa) wa wb := Fb.mono (fun x hx => by rw [hx]; exact .inl rfl)
  have SB1 := Lib.hid (SA.out.step Ib Fb' (fun y hy => .inl hy))
  have BB1 := Lib.hid (Fr.below BA1.out Fb' (by have := BA1.out.size; omega) SA.out.bench.ges)
  clear Ib Fb Fb' HLM
  go_wp2_with fail
  refine Calls.mono (sector_any 1 wb (by decide)) ?_
  rintro r wc ⟨xv, rfl, Oc, bc⟩
  have HLTB := SB1.out.bench.lts
  have HWR := bwrite_any wc _ _ _ _ _ 0 0 xv (secL 1) (SB1.out.bench.up bc) Oc.byt (fun y hy h => by have := Oc.ge y hy; have := HLTB y h; omega) (by have := (belT BB1.out bc).size; omega) (fun d hd => by have := H3.out.2.2.2 d hd; omega) (by have := H3.out.2.1; show _ < C3.writes ∧ C3.writes < _; omega) (by show _ < (0 : Int) ∧ (0 : Int) ≤ _; omega)
  have hx1' : B.write { C3 with left := 0 } (0 : Int) (0 : Int) (secL 1) = { C3 with left := 0, down := true } := HX1.out
  rw [hx1'] at HWR
  have HWR := Lib.hid HWR
  have SC := Lib.hid (SB1.out.up bc)
  have BC := Lib.hid (belT BB1.out bc)
  clear Oc bc hx1' HLTB
  go_wp2_with fail
  refine Calls.mono HWR.out ?_
  rintro r wd ⟨rfl, hsd, Id, Fd, qd⟩
  have SD := Lib.hid (SC.out.step Id Fd qd)
  have BD := Lib.hid (Fr.below BC.out Fd (by have := BC.out.size; omega) SC.out.bench.ges)
  have HBD := best_down wd _ _ _ _ _ SD.out.bench rfl
  unfold sv Sup.zero Geo.zero at HBD
  dsimp only at HBD
  have HBD := Lib.hid HBD
  clear Id Fd qd HWR
  go_wp2_with fail
  refine Calls.mono HBD.out ?_
  rintro r we ⟨rfl, be⟩
  have BE1 := belT be (belA1 (o1 := .cells #[.int .i64 0, .int .i64 0, .int .i64 0, .int .i64 0, .int .i64 0, .int .i64 0, .int .i64 0, .bool false, .int .i64 0, .int .i64 0, .int .i64 0] 72) (belR we))
  have SE8 := SD.out.up BE1
  obtain ⟨Y1, hY1⟩ : ∃ Y1, Y1 = we.alloc (.cells #[.int .i64 0, .int .i64 0, .int .i64 0, .int .i64 0, .int .i64 0, .int .i64 0, .int .i64 0, .bool false, .int .i64 0, .int .i64 0, .int .i64 0] 72) := ⟨_, rfl⟩
  have HY1 := Lib.hid hY1
  rw [← hY1] at BE1 SE8
  have BE2 := belT BE1 (belA1 (o1 := .cells #[.bool true] 4) (belR _))
  have SE := Lib.hid (SD.out.up BE2)
  have BE := Lib.hid (belT BD.out BE2)
  have TE := (OwnT.lit Y1 #[.bool true] [true] (n := 1) (g := Y1.heap.size) rfl rfl rfl (by decide)).bools
  have HSDD := HSD.out _ _ _ _ _ _ _ SE.out.bench rfl (by have := BE.out.size; omega) TE (by show 0 < C3.ds.length; rw [H3.out.2.2.1]; decide) (by show C3.ds.length ≤ 8; rw [H3.out.2.2.1]; decide) rfl H3.out.2.2.2 (by have := H3.out.2.1; show _ ≤ C3.writes ∧ C3.writes ≤ _; omega)
  have HSDD := Lib.hid HSDD
  obtain ⟨f0, f1, f2, f3, f4, f5, f6, f7, f8, f9, f10⟩ := SE8.box.sup
  have hl8 : w4.heap.size < Y1.heap.size := SE8.lt
  clear be BE1 BE2 TE SE8 hY1
  go_upto_region 21 with (fail)
  rw [← HY1.out]
  go_wp2_with fail
  refine Calls.mono HSDD.out ?_
  rintro r wf ⟨rfl, Ff⟩
  have BF := Lib.hid (Fr.below BE.out Ff (by have := BE.out.size; omega) SE.out.bench.ges)
  clear Ff
  go_wp2_with fail
  refine Calls.mono (wakes10_any wf) ?_
  rintro r wg ⟨rfl, bg⟩
  go_wp2
  go_ret
  exact ⟨rfl, belT BF.out bg⟩
theorem slotsErrors_true (W : World) (n : Int) (hn : -9223372036854775808 ≤ n ∧ n ≤ 9223372036854775807) :
    Calls Try.prog 9 #[.int .i64 n, .bool true] W fun e W' => e = .returned (.bool true) ∧ Below W.heap.size W W' := by
  obtain ⟨G, ep, hG, hep, hone⟩ := one_fix n hn
  obtain ⟨s, hs⟩ : ∃ s, s = supG G ep 3 := ⟨_, rfl⟩
  have hok : s.ok = true := by rw [hs]; exact supG_ok hG hep (by decide) (by decide)
  have hsl : slotN s = 1 := by rw [hs]; rfl
  have hgn : s.gen = 3 := by rw [hs]; rfl
  have h1s := hone 3
  rw [← hs] at h1s
  obtain ⟨m1, m2, m3⟩ := B.mid_best (lvs := [false, true]) rfl rfl rfl hok hsl hgn
  have hcn := B.cntS_fresh [false, true] rfl rfl rfl
  obtain ⟨u1, w1, l1, f1, k1, p1⟩ := B.store_spec (B.Up.fresh 3).pw [false, true] (a := 1) (by decide) (x := s.enc) s.enc_len s.enc_byte
  have hP1 : ∀ d ∈ (B.storeB (B.fresh 3) [false, true] 1 s.enc).ds, d.p.length ≤ 1000000 := fun d hd => by
    obtain ⟨i, hi, rfl⟩ := List.getElem_of_mem hd
    have hi3 : i < (B.fresh 3).ds.length := by rw [← l1]; exact hi
    have := p1 i hi3
    rw [B.at1_eq hi, B.at1_eq hi3] at this
    have := B.fresh_p 3 _ (List.getElem_mem hi3)
    omega
  rw [hcn] at w1
  have w1 : (B.storeB (B.fresh 3) [false, true] 1 s.enc).writes = 1 := w1
  rw [B.fresh_len] at l1
  obtain ⟨C1, hC1⟩ : ∃ C1, C1 = B.storeB (B.fresh 3) [false, true] 1 s.enc := ⟨_, rfl⟩
  rw [← hC1] at m1 m2 m3 u1 w1 l1 hP1
  obtain ⟨C2, hC2⟩ : ∃ C2, C2 = { C1 with ds := C1.ds.set 1 D.fail } := ⟨_, rfl⟩
  have u2 : B.Pw C2 := by rw [hC2]; exact B.pw_fail u1 1
  have l2 : C2.ds.length = 3 := by rw [hC2]; show (C1.ds.set 1 D.fail).length = 3; rw [List.length_set, l1]
  have w2 : C2.writes = 1 := by rw [hC2]; exact w1
  have hP2 : ∀ d ∈ C2.ds, d.p.length ≤ 1000000 := fun d hd => by
    rw [hC2] at hd
    rcases List.mem_or_eq_of_mem_set hd with h1 | h1
    · exact hP1 d h1
    · rw [h1]; decide
  have hf2 : B.failB C2 0 = false := by
    have e : B.failB C2 0 = (B.at1 C2 0).f := rfl
    rw [e, hC2, B.at1_set (b := C1) (by rw [l1]; decide) C1.writes, if_neg (by decide)]
    have := f1 0 (by rw [B.fresh_len]; decide)
    rw [← hC1, B.fresh_failB] at this
    exact this
  rw [← hC2] at m3
  obtain ⟨u3, w3, l3, f3, k3, p3⟩ := B.store_spec u2 [false, true] (a := 1) (by decide) (x := s.enc) s.enc_len s.enc_byte
  have hcn2 := B.cntS_le C2 [false, true] C2.ds.length
  have hP3 : ∀ d ∈ (B.storeB C2 [false, true] 1 s.enc).ds, d.p.length ≤ 1000000 := fun d hd => by
    obtain ⟨i, hi, rfl⟩ := List.getElem_of_mem hd
    have hi3 : i < C2.ds.length := by rw [← l3]; exact hi
    have := p3 i hi3
    rw [B.at1_eq hi, B.at1_eq hi3] at this
    have := hP2 _ (List.getElem_mem hi3)
    omega
  have hf3 := f3 0 (by rw [l2]; decide)
  rw [hf2] at hf3
  have hw3 : 0 ≤ (B.storeB C2 [false, true] 1 s.enc).writes ∧ (B.storeB C2 [false, true] 1 s.enc).writes ≤ 100 := by rw [w3, w2]; omega
  obtain ⟨C3, hC3⟩ : ∃ C3, C3 = B.storeB C2 [false, true] 1 s.enc := ⟨_, rfl⟩
  rw [← hC3] at u3 l3 hP3 hf3 hw3
  rw [l2] at l3
  have hq := fun w => seq_run s s w
  rw [(Sup.same_iff s s).2 rfl] at hq
  have hx1 : B.write { C3 with left := 0 } ((0 : Nat) : Int) ((0 : Nat) : Int) (secL 1) = { C3 with left := 0, down := true } := by
    have h0 : 0 < C3.ds.length := by omega
    have hff : (C3.ds[0]).f = false := by rw [← B.at1_eq h0]; exact hf3
    exact (B.write_spent (b := { C3 with left := 0 }) (i := 0) (a := 0) (d := C3.ds[0]) u3.down (List.getElem?_eq_getElem h0) hff (by decide) (secL_len 1) rfl).2
  obtain ⟨Z, hZ⟩ : ∃ Z, Z = Sup.zero := ⟨_, rfl⟩
  have hz0 := fun (g : Nat) (vv : Value) (w : World) => store_no g vv Sup.zero w zero_sin rfl
  have H1 := Lib.hid (And.intro u1 (And.intro w1 (And.intro l1 hP1)))
  have H2 := Lib.hid (And.intro u2 (And.intro w2 (And.intro l2 hP2)))
  have H3 := Lib.hid (And.intro u3 (And.intro hw3 (And.intro l3 hP3)))
  have HM := Lib.hid (And.intro m1 (And.intro m2 m3))
  have HC1 := Lib.hid hC1
  have HC2 := Lib.hid hC2
  have HC3 := Lib.hid hC3
  have HX1 := Lib.hid hx1
  have HOK := Lib.hid hok
  have HSL := Lib.hid hsl
  have HGN := Lib.hid hgn
  have HST := fun (w : World) base g lv hs b vv lvs h hU hb0 hL hn hp hw => store_yes w base g lv hs b vv lvs s h hU hb0 hL hok hn hp hw
  rw [hsl] at HST
  have HSD := fun (w : World) base g lv hs b vv h hd hb0 hL hn hn8 hl hp hw => store_down w base g lv hs b vv s h hd hb0 hL hok hn hn8 hl hp hw
  have HBY := fun (w : World) base g lv hs b h hL hn hb => best_yes w base g lv hs b h hL hn s hb (by rw [hgn]; decide)
  unfold sv at hq h1s hz0 HST HSD HBY
  unfold Sup.zero Geo.zero at hz0
  dsimp only at hz0
  have HONE := Lib.hid h1s
  have HQ := Lib.hid hq
  have HZ0 := Lib.hid hz0
  have HST := Lib.hid HST
  have HSD := Lib.hid HSD
  have HBY := Lib.hid HBY
  clear hn hG hep hone hs hok hsl hgn h1s m1 m2 m3 hcn u1 w1 l1 f1 k1 p1 hP1 hC1 hC2 u2 w2 l2 hP2 hf2 u3 w3 l3 f3 k3 p3 hcn2 hP3 hf3 hw3 hC3 hq hx1 hz0 hZ
  go_enter Try.func9, Try.ntmps9
  go_wp2_with fail
  refine Calls.mono (bnew_any W 3 (by decide) (by decide)) ?_
  rintro r w1 ⟨rfl, ⟨lv, hs, I1⟩, b1⟩
  have HLT1 := Lib.hid I1.lts
  have hsz1 : W.heap.size < w1.heap.size := I1.lt
  have I1 := Lib.hid I1
  go_wp2_with fail
  refine Calls.mono (HZ0.out _ _ _) ?_
  rintro r w2 ⟨rfl, b2⟩
  have B2 := belT (belA1 (belR w1)) b2
  have HWC := bwrites_any w2 _ _ _ _ _ (I1.out.up B2)
  rw [show (B.fresh 3).writes = 0 from rfl] at HWC
  have HWC := Lib.hid HWC
  clear b2
  go_wp2_with fail
  refine Calls.mono HWC.out ?_
  rintro r w3 ⟨rfl, rfl⟩
  have HLT12 : Hid (∀ y, ofB W.heap.size lv hs y → y < w2.heap.size) := Lib.hid (fun y hy => by have := HLT1.out y hy; have := B2.size; omega)
  have T3 := Lib.hid (OwnT.lit w2 #[.bool false, .bool true, .bool false] [false, true, false] (n := 3) (g := w2.heap.size) rfl rfl rfl (by decide))
  go_wp2_with fail
  refine Calls.mono (HONE.out _) ?_
  rintro r w4 ⟨rfl, b4⟩
  have hz4 : w2.heap.size + 1 ≤ w4.heap.size := by have := b4.size; simp at this; omega
  have B24 := belT (belA1 (belR w2)) b4
  go_wp2_with fail
  obtain ⟨X4, hX4⟩ : ∃ X4, X4 = w4.alloc (.cells #[.int .i64 s.gen, .int .i64 s.a.l, .int .i64 s.a.d, .int .i64 s.a.c, .int .i64 s.b.l, .int .i64 s.b.d, .int .i64 s.b.c, .bool s.run, .int .i64 s.win, .int .i64 s.ep, .int .i64 s.out] 72) := ⟨_, rfl⟩
  have bx4 : Below w4.heap.size w4 X4 := by rw [hX4]; exact belA1 (belR _)
  have hsx4 : X4.heap.size = w4.heap.size + 1 := by rw [hX4]; simp
  have BX4 := Lib.hid (belT b1 (belT B2 (belT B24 bx4)))
  have S4 : Hid (SB W.heap.size W.heap.size lv hs (B.fresh 3) (.slice (some ⟨w2.heap.size, 0, none⟩) 2 3) [false, true] w4.heap.size s X4) := by
    have hsz2 := B2.size
    refine ⟨I1.out.up (belT B2 (belT B24 bx4)), ?_, ?_, fun h => by have := HLT1.out _ h; omega, by omega⟩
    · have := ((T3.out.up b4).up bx4).ba HLT12.out
      exact this.takeI (k := 2) (by decide) (by simp)
    · rw [hX4]; exact Box.new w4 (scl s) 72
  rw [← hX4]
  have HP5 := HST.out X4 _ _ _ _ _ _ _ S4.out.bench (B.Up.fresh 3).pw (by have := BX4.out.size; omega) S4.out.live (by rw [B.fresh_len]; decide) (B.fresh_p 3) (B.fresh_w 3)
  rw [← HC1.out] at HP5
  have HP5 := Lib.hid HP5
  clear hX4 b4 B24 bx4 b1 B2
  refine Calls.mono HP5.out ?_
  rintro r w5 ⟨rfl, hs5, I5, F5, q5⟩
  have S5 := Lib.hid (S4.out.step I5 F5 q5)
  have B5 := Lib.hid (Fr.below BX4.out F5 (by have := BX4.out.size; omega) S4.out.bench.ges)
  have HWC := bwrites_any w5 _ _ _ _ _ S5.out.bench
  rw [H1.out.2.1] at HWC
  have HWC := Lib.hid HWC
  clear I5 F5 q5 HP5
  go_wp2_with fail
  refine Calls.mono HWC.out ?_
  rintro r w6 ⟨rfl, rfl⟩
  have HB5 := HBY.out w5 _ _ _ _ _ S5.out.bench H1.out.1.lv (by rw [H1.out.2.2.1]; decide) (by rw [H1.out.2.2.1]; exact HM.out.1)
  rw [H1.out.2.2.1, HM.out.2.1] at HB5
  have HB5 := Lib.hid HB5
  go_wp2_with fail
  refine Calls.mono HB5.out ?_
  rintro r w7 ⟨hv, rfl, T7, b7⟩
  obtain ⟨av, cv, rfl, _, _⟩ := T7.bools.shapeB
  obtain ⟨bv, ov, x0, e0, d0, y0⟩ := T7.bools.cellAt (k := 0) (by decide)
  subst e0
  obtain ⟨bv', ov', x1, e1, d1, y1⟩ := T7.bools.cellAt (k := 1) (by decide)
  cases e1
  obtain ⟨bv', ov', x2, e2, d2, y2⟩ := T7.bools.cellAt (k := 2) (by decide)
  cases e2
  cases y0.out
  cases y1.out
  cases y2.out
  rw [Nat.add_zero] at d0
  have S7 := Lib.hid (S5.out.up b7)
  obtain ⟨f0, f1, f2, f3, f4, f5, f6, f7, f8, f9, f10⟩ := S7.out.box.sup
  have hl7 : w4.heap.size < w7.heap.size := S7.out.lt
  have hbl : bv < w7.heap.size := T7.lts _ rfl
  have hqq := HQ.out
  have HFA := bfail_any _ _ _ _ _ _ 1 (S7.out.bench.up (belA1 (o1 := .cells #[.int .i64 s.gen, .int .i64 s.a.l, .int .i64 s.a.d, .int .i64 s.a.c, .int .i64 s.b.l, .int .i64 s.b.d, .int .i64 s.b.c, .bool s.run, .int .i64 s.win, .int .i64 s.ep, .int .i64 s.out] 72) (belR w7))) (by rw [H1.out.2.2.1]; decide)
  rw [← HC2.out] at HFA
  have HFA := Lib.hid HFA
  have S7A := Lib.hid (S7.out.up (belA1 (o1 := .cells #[.int .i64 s.gen, .int .i64 s.a.l, .int .i64 s.a.d, .int .i64 s.a.c, .int .i64 s.b.l, .int .i64 s.b.d, .int .i64 s.b.c, .bool s.run, .int .i64 s.win, .int .i64 s.ep, .int .i64 s.out] 72) (belR w7)))
  have B7A := Lib.hid (belA1 (o1 := .cells #[.int .i64 s.gen, .int .i64 s.a.l, .int .i64 s.a.d, .int .i64 s.a.c, .int .i64 s.b.l, .int .i64 s.b.d, .int .i64 s.b.c, .bool s.run, .int .i64 s.win, .int .i64 s.ep, .int .i64 s.out] 72) (belT B5.out b7))
  go_wp2_with fail
  refine Calls.mono HFA.out ?_
  clear d0 d1 d2 f0 f1 f2 f3 f4 f5 f6 f7 f8 f9 f10 T7 b7 S7 hqq
  rintro r w8 ⟨rfl, hs8, I8, F8, q8⟩
  have S8 := Lib.hid (S7A.out.step I8 F8 q8)
  have B8 := Lib.hid (Fr.below B7A.out F8 (by have := B7A.out.size; omega) S7A.out.bench.ges)
  have HB8 := best_no w8 _ _ _ _ _ S8.out.bench H2.out.1.lv (by rw [H2.out.2.2.1]; decide) (by rw [H2.out.2.2.1]; exact HM.out.2.2)
  unfold sv Sup.zero Geo.zero at HB8
  dsimp only at HB8
  have HB8 := Lib.hid HB8
  clear I8 F8 q8 HFA
  go_wp2_with fail
  refine Calls.mono HB8.out ?_
  rintro r w9 ⟨rfl, b9⟩
  have S9 := Lib.hid (S8.out.up (belT b9 (belA1 (o1 := .cells #[.int .i64 0, .int .i64 0, .int .i64 0, .int .i64 0, .int .i64 0, .int .i64 0, .int .i64 0, .bool false, .int .i64 0, .int .i64 0, .int .i64 0] 72) (belR w9))))
  have B9 := Lib.hid (belT B8.out (belT b9 (belA1 (o1 := .cells #[.int .i64 0, .int .i64 0, .int .i64 0, .int .i64 0, .int .i64 0, .int .i64 0, .int .i64 0, .bool false, .int .i64 0, .int .i64 0, .int .i64 0] 72) (belR w9))))
  obtain ⟨Y9, hY9⟩ : ∃ Y9, Y9 = w9.alloc (.cells #[.int .i64 0, .int .i64 0, .int .i64 0, .int .i64 0, .int .i64 0, .int .i64 0, .int .i64 0, .bool false, .int .i64 0, .int .i64 0, .int .i64 0] 72) := ⟨_, rfl⟩
  rw [← hY9] at S9 B9
  have HY9 := Lib.hid hY9
  obtain ⟨f0, f1, f2, f3, f4, f5, f6, f7, f8, f9, f10⟩ := S9.out.box.sup
  have HPA := HST.out Y9 _ _ _ _ _ _ _ S9.out.bench H2.out.1 (by have := B9.out.size; omega) S9.out.live (by rw [H2.out.2.2.1]; decide) H2.out.2.2.2 (by rw [H2.out.2.1]; decide)
  rw [← HC3.out] at HPA
  have HPA := Lib.hid HPA
  clear b9 hY9
  go_upto_region 17 with (fail)
  rw [← HY9.out]
  go_wp2_with fail
  refine Calls.mono HPA.out ?_
  clear f0 f1 f2 f3 f4 f5 f6 f7 f8 f9 f10
  rintro r wa ⟨rfl, hsa, Ia, Fa, qa⟩
  have SA := Lib.hid (S9.out.step Ia Fa qa)
  have BA1 := Lib.hid (Fr.below B9.out Fa (by have := B9.out.size; omega) S9.out.bench.ges)
  have HLM := Lib.hid (blimit_any wa _ _ _ _ _ 0 SA.out.bench (by decide))
  clear Ia Fa qa HPA
  go_wp2_with fail
  refine Calls.mono HLM.out ?_
  rintro r wb ⟨rfl, Ib, Fb⟩
  rw [if_neg (by decide)] at Ib
  have Fb' : Fr (ofB W.heap.size lv hsa) wa wb := Fb.mono (fun x hx => by rw [hx]; exact .inl rfl)
  have SB1 := Lib.hid (SA.out.step Ib Fb' (fun y hy => .inl hy))
  have BB1 := Lib.hid (Fr.below BA1.out Fb' (by have := BA1.out.size; omega) SA.out.bench.ges)
  clear Ib Fb Fb' HLM
  go_wp2_with fail
  refine Calls.mono (sector_any 1 wb (by decide)) ?_
  rintro r wc ⟨xv, rfl, Oc, bc⟩
  have HLTB := SB1.out.bench.lts
  have HWR := bwrite_any wc _ _ _ _ _ 0 0 xv (secL 1) (SB1.out.bench.up bc) Oc.byt (fun y hy h => by have := Oc.ge y hy; have := HLTB y h; omega) (by have := (belT BB1.out bc).size; omega) (fun d hd => by have := H3.out.2.2.2 d hd; omega) (by have := H3.out.2.1; show _ < C3.writes ∧ C3.writes < _; omega) (by show _ < (0 : Int) ∧ (0 : Int) ≤ _; omega)
  have hx1' : B.write { C3 with left := 0 } (0 : Int) (0 : Int) (secL 1) = { C3 with left := 0, down := true } := HX1.out
  rw [hx1'] at HWR
  have HWR := Lib.hid HWR
  have SC := Lib.hid (SB1.out.up bc)
  have BC := Lib.hid (belT BB1.out bc)
  clear Oc bc hx1' HLTB
  go_wp2_with fail
  refine Calls.mono HWR.out ?_
  rintro r wd ⟨rfl, hsd, Id, Fd, qd⟩
  have SD := Lib.hid (SC.out.step Id Fd qd)
  have BD := Lib.hid (Fr.below BC.out Fd (by have := BC.out.size; omega) SC.out.bench.ges)
  have HBD := best_down wd _ _ _ _ _ SD.out.bench rfl
  unfold sv Sup.zero Geo.zero at HBD
  dsimp only at HBD
  have HBD := Lib.hid HBD
  clear Id Fd qd HWR
  go_wp2_with fail
  refine Calls.mono HBD.out ?_
  rintro r we ⟨rfl, be⟩
  have BE1 := belT be (belA1 (o1 := .cells #[.int .i64 0, .int .i64 0, .int .i64 0, .int .i64 0, .int .i64 0, .int .i64 0, .int .i64 0, .bool false, .int .i64 0, .int .i64 0, .int .i64 0] 72) (belR we))
  have SE8 := SD.out.up BE1
  obtain ⟨Y1, hY1⟩ : ∃ Y1, Y1 = we.alloc (.cells #[.int .i64 0, .int .i64 0, .int .i64 0, .int .i64 0, .int .i64 0, .int .i64 0, .int .i64 0, .bool false, .int .i64 0, .int .i64 0, .int .i64 0] 72) := ⟨_, rfl⟩
  have HY1 := Lib.hid hY1
  rw [← hY1] at BE1 SE8
  have BE2 := belT BE1 (belA1 (o1 := .cells #[.bool true] 4) (belR _))
  have SE := Lib.hid (SD.out.up BE2)
  have BE := Lib.hid (belT BD.out BE2)
  have TE := (OwnT.lit Y1 #[.bool true] [true] (n := 1) (g := Y1.heap.size) rfl rfl rfl (by decide)).bools
  have HSDD := HSD.out _ _ _ _ _ _ _ SE.out.bench rfl (by have := BE.out.size; omega) TE (by show 0 < C3.ds.length; rw [H3.out.2.2.1]; decide) (by show C3.ds.length ≤ 8; rw [H3.out.2.2.1]; decide) rfl H3.out.2.2.2 (by have := H3.out.2.1; show _ ≤ C3.writes ∧ C3.writes ≤ _; omega)
  have HSDD := Lib.hid HSDD
  obtain ⟨f0, f1, f2, f3, f4, f5, f6, f7, f8, f9, f10⟩ := SE8.box.sup
  have hl8 : w4.heap.size < Y1.heap.size := SE8.lt
  clear be BE1 BE2 TE SE8 hY1
  go_upto_region 21 with (fail)
  rw [← HY1.out]
  go_wp2_with fail
  refine Calls.mono HSDD.out ?_
  rintro r wf ⟨rfl, Ff⟩
  have BF := Lib.hid (Fr.below BE.out Ff (by have := BE.out.size; omega) SE.out.bench.ges)
  clear Ff
  go_wp2_with fail
  refine Calls.mono (wakes10_any wf) ?_
  rintro r wg ⟨rfl, bg⟩
  go_wp2
  go_ret
  exact ⟨rfl, belT BF.out bg⟩
theorem slotsErrors_law (n : Int) (hn : -9223372036854775808 ≤ n ∧ n ≤ 9223372036854775807) (few : Bool) (W : World) :
    Calls Try.prog 9 #[.int .i64 n, .bool few] W fun e W' => e = .returned (.bool true) ∧ Below W.heap.size W W' := by
  cases few
  · exact slotsErrors_false W n hn
  · exact slotsErrors_true W n hn
end Go.Proofs.Ytenjpldinnbcbaa
