/- The law BackupLive (chapter 19). True at every input. -/
import Derived.Test.YtenjpldinnbcbaaBkL
import Derived.Test.YtenjpldinnbcbaaBenchY
namespace Go.Proofs.Ytenjpldinnbcbaa
open Go.RowKit
set_option linter.unusedVariables false
set_option linter.unusedSimpArgs false
set_option maxRecDepth 100000
set_option maxHeartbeats 2000000

theorem Bools.takeI {w : World} {ao : Option Addr} {n cap k : Nat} {l : List Bool} (h : Bools w (.slice ao n cap) l) (hk : k ≤ n) : Bools w (.slice ao k cap) (l.take k) := by
  obtain ⟨ao', cap', e, h1, h2, h0, h4⟩ := h
  cases e
  have e : k = (l.take k).length := by rw [List.length_take]; omega
  exact ⟨ao, cap, by rw [← e], by omega, h2, h0, by rw [List.map_take]; exact h4.take k⟩
theorem BA.of {S : Nat → Prop} {w : World} {v : Value} {l : List Bool} (h : Bools w v l) (h2 : l ≠ [] → ∀ y, v.ownBlock = some y → ¬ S y) : BA S w v l := ⟨h, h2⟩
/-- a bench, which disks are live, rows: all apart -/
def SJ (base g : Nat) (lv : Value) (hs : List (Nat × Value)) (c : B.Bn) (vv : Value) (lvs : List Bool) (dv : Value) (data : List (List Nat)) (w : World) : Prop :=
  IsBench w base g lv hs c ∧ BA (ofB g lv hs) w vv lvs ∧ PA (ofB g lv hs) w dv data
theorem SJ.up {base g : Nat} {lv : Value} {hs : List (Nat × Value)} {c : B.Bn} {vv : Value} {lvs : List Bool} {dv : Value} {data : List (List Nat)} {w w' : World} (h : SJ base g lv hs c vv lvs dv data w) (k : Below w.heap.size w w') : SJ base g lv hs c vv lvs dv data w' :=
  ⟨h.1.up k, h.2.1.up k, h.2.2.up k⟩
/-- a Put, what is live and the rows kept beside it -/
theorem put_sj {base g : Nat} {lv : Value} {hs : List (Nat × Value)} {b : B.Bn} {vv : Value} {lvs : List Bool} {dv : Value} {data : List (List Nat)} {w : World} (h : SJ base g lv hs b vv lvs dv data w) (hU : B.Up b) (hb0 : base ≤ w.heap.size) (e x : Nat) (he : e < 65536) (hx : x ≤ 16) (hl : data.length ≤ 28) (h32 : ∀ p ∈ data, p.length = 32)
    (hn : b.ds.length ≤ 8) (hp : ∀ d ∈ b.ds, d.p.length ≤ 1000000) (hw : 0 ≤ b.writes ∧ b.writes ≤ 1000000000) :
    Calls Try.prog 17 #[.pointer (some ⟨g, 0, none⟩), vv, .int .i64 (e : Int), .int .i64 (x : Int), dv] w fun r w' => r = .returned (.int .i64 0) ∧ (∃ hs', SJ base g lv hs' (B.putB b lvs (headL e x data :: data)) vv lvs dv data w') ∧ Below base w w' := by
  refine Calls.mono (bkput_yes w base g lv hs b vv lvs e x dv data h.1 hU hb0 h.2.1 h.2.2 he hx hl h32 hn hp hw) ?_
  rintro r w' ⟨rfl, hs', I, F, q⟩
  exact ⟨rfl, ⟨hs', I, h.2.1.step F q, h.2.2.step F q⟩, Fr.below ⟨rfl, rfl, rfl, Nat.le_refl _, fun _ _ => rfl⟩ F hb0 h.1.ges⟩
namespace B
theorem nil_down (b : Bn) (i : Nat) : { b with ds := b.ds.set i D.fail }.ds.length = b.ds.length := by show (List.set _ _ _).length = _; rw [List.length_set]
theorem set_lv {b : Bn} (h : Lv b) (i : Nat) : Lv { b with ds := b.ds.set i D.fail } := ⟨h.down, fun d hd => by
  rcases List.mem_or_eq_of_mem_set hd with h1 | h1
  · exact h.ok d h1
  · rw [h1]; exact D.fail_ok⟩
theorem set_of {b : Bn} {i : Nat} (hi : i < b.ds.length) (e x : Nat) : ofOk { b with ds := b.ds.set i D.fail } i e x = false := by
  have : failB { b with ds := b.ds.set i D.fail } i = true := by
    unfold failB
    show ((b.ds.set i D.fail).getD i D.blank).f = true
    rw [List.getD_eq_getElem?_getD, List.getElem?_set_self hi]; rfl
  unfold ofOk
  rw [this]; rfl
end B
attribute [local irreducible] Go.Calls Byt Own Parts PA BA Bools OwnD OwnT SJ
theorem backupLive_0 (W : World) (v : Value) (l : List Int) (s : Ints W v l) (only fail : Int) (h3 : withinI only 3 = 0) (ho : -9223372036854775808 ≤ only ∧ only ≤ 9223372036854775807) :
    Calls Try.prog 5 #[v, .int .i64 only, .int .i64 fail] W fun e W' => e = .returned (.bool true) ∧ Below W.heap.size W W' := by
  obtain ⟨k, hk⟩ : ∃ k : Nat, (k : Int) = withinI (wrap64 fail) 5 := ⟨(withinI (wrap64 fail) 5).toNat, by have := withinI_ge (wrap64 fail) 5; omega⟩
  have hk5 : k < 5 := by have := withinI_lt (wrap64 fail) 5 (by decide); omega
  have W1 := Lib.hid (fun w => within_any only 3 w (by decide) ho.1 ho.2)
  have W2 := Lib.hid (fun w => within_any (wrap64 fail) 5 w (by decide) (wrap64_in _).1 (wrap64_in _).2)
  rw [h3] at W1
  rw [← hk] at W2
  obtain ⟨DL, hDL⟩ : ∃ DL, DL = sectL l k := ⟨_, rfl⟩
  have dl : DL.length = k := by rw [hDL]; exact sectL_len l k
  have d32 : ∀ p ∈ DL, p.length = 32 := by rw [hDL]; exact sectL_32 l k
  have d8 : ∀ p ∈ DL, ∀ y ∈ p, y < 256 := by rw [hDL]; exact sectL_byte l k
  have HDL := Lib.hid hDL
  have HS := Lib.hid s
  have D32 := Lib.hid d32
  have HDLN := Lib.hid dl
  obtain ⟨C, hC⟩ : ∃ C, C = B.putB (B.fresh 3) [true, false, false] (headL 7 3 DL :: DL) := ⟨_, rfl⟩
  have HC := Lib.hid hC
  have hU := B.Up.fresh 3
  have hL3 := B.fresh_len 3
  obtain ⟨cu, cl, cw⟩ := B.put_up (lv := [true, false, false]) (e := 7) (x := 3) hU d32 d8 (by omega)
  rw [← hC] at cu cl cw
  rw [hL3] at cl
  have hlive := B.put_live (lv := [true, false, false]) (i := 0) (e := 7) (x := 3) hU d32 d8 (by omega) (by rw [hL3]; decide) rfl
  rw [← hC] at hlive
  have hdead : ∀ i, i < 3 → i ≠ 0 → B.ofOk C i 7 3 = false := by
    intro i hi hne
    have hdl : B.live1 [true, false, false] i = false := by
      have : i = 1 ∨ i = 2 := by omega
      rcases this with rfl | rfl <;> rfl
    rw [hC, (B.put_dead (lv := [true, false, false]) (e := 7) (x := 3) hU d32 d8 (by omega) (by rw [hL3]; exact hi) hdl 7 3).1]
    exact B.ofOk_zero (B.fresh_look 3 i 6 (by decide))
  have G1 : Hid (B.getO C [true, true, true] 7 3 C.ds.length = some 0) := by
    rw [cl]
    exact B.getO_some (by decide) rfl hlive.2.2.2 (fun j hj => by rw [hdead j (by omega) (by omega)]; simp)
  have G2 : Hid (B.getO C [false, true, true] 7 3 C.ds.length = none) := by
    rw [cl]
    refine B.getO_none 3 (fun j hj => ?_)
    by_cases hjm : j = 0
    · subst hjm; rfl
    · rw [hdead j hj hjm]; simp
  have G3 : Hid (B.getO C ([true, false, false].take 0) 7 3 C.ds.length = none) := by
    rw [cl]
    refine B.getO_none 3 (fun j hj => ?_)
    by_cases hjm : j = 0
    · subst hjm; rfl
    · rw [hdead j hj hjm]; simp
  obtain ⟨C2, hC2⟩ : ∃ C2, C2 = { C with ds := C.ds.set 0 D.fail } := ⟨_, rfl⟩
  have c2l : C2.ds.length = 3 := by rw [hC2, B.nil_down]; exact cl
  have G4 : Hid (B.getO C2 [true, false, false] 7 3 C2.ds.length = none) := by
    rw [c2l]
    refine B.getO_none 3 (fun j hj => ?_)
    by_cases hjm : j = 0
    · subst hjm; rw [hC2, B.set_of (by rw [cl]; decide)]; simp
    · have : B.live1 [true, false, false] j = false := by
        have : j = 1 ∨ j = 2 := by omega
        rcases this with rfl | rfl <;> rfl
      rw [this]; rfl
  have HLV2 : Hid (B.Lv C2) := by rw [hC2]; exact B.set_lv cu.lv _
  have HC2 := Lib.hid hC2
  have HC2L := Lib.hid c2l
  have HCL := Lib.hid cl
  have HCLV := Lib.hid cu.lv
  have HOF : Hid (B.ofL C 0 = DL) := hlive.2.2.1
  have HWR : Hid (C.writes = ((k + 1 : Nat) : Int)) := by
    show _ = _
    rw [cw, hL3, dl]
    show (0 : Int) + ((1 * (k + 1) : Nat) : Int) = _
    omega
  have hk1 : IntKind.i64.wrap ((k : Int) + 1) = ((k + 1 : Nat) : Int) := by rw [IntKind.wrap_i64]; omega
  have hkk : ((((k + 1 : Nat) : Int)) != ((k + 1 : Nat) : Int)) = false := by simp
  have HK5 := Lib.hid hk5
  clear s h3 ho hk hDL d8 d32 dl hC hU hL3 cu cl cw hlive hdead hC2 c2l hk5
  go_enter Try.func5, Try.ntmps5
  go_wp2_with fail
  refine Calls.mono (bnew_any W 3 (by decide) (by decide)) ?_
  rintro r w1 ⟨rfl, ⟨lv, hs, I1⟩, b1⟩
  have hlt1 := I1.lts
  have hsz1 : W.heap.size < w1.heap.size := I1.lt
  have I1 := Lib.hid I1
  go_wp2_with fail
  refine Calls.mono (W1.out w1) ?_
  rintro r w2 ⟨rfl, rfl⟩
  go_wp2_with fail
  refine Calls.mono (W2.out _) ?_
  rintro r w2 ⟨rfl, rfl⟩
  have T1 := OwnT.lit w1 #[.bool true, .bool false, .bool false] [true, false, false] (n := 3) (g := w1.heap.size) rfl rfl rfl (by decide)
  go_wp2_with fail
  refine Calls.mono (sectors13_any v l k _ (HS.out.up (belT b1 (belA1 (belR _)))) (by have := HK5.out; omega)) ?_
  rintro r w3 ⟨dv, rfl, D3, b3⟩
  rw [← HDL.out] at D3
  obtain ⟨ad, cd, rfl, _, _⟩ := D3.shape
  rw [HDLN.out]
  rw [HDLN.out] at D3
  have hsz3 : w1.heap.size < w3.heap.size := by have := b3.size; simp at this; omega
  have S3 : Hid (SJ W.heap.size W.heap.size lv hs (B.fresh 3) (.slice (some ⟨w1.heap.size, 0, none⟩) 3 3) [true, false, false] (.slice ad k cd) DL w3) := by
    have e1 := (I1.out.up (belA1 (belR w1) (o1 := Obj.cells #[.bool true, .bool false, .bool false] 4))).up b3
    unfold SJ
    exact ⟨e1, ((T1.up b3).ba hlt1), D3.pa (fun y hy => by have := hlt1 y hy; simp; omega)⟩
  have HPUT := put_sj S3.out (B.Up.fresh 3) (by omega) 7 3 (by decide) (by decide) (by rw [HDLN.out]; have := HK5.out; omega) D32.out (by rw [B.fresh_len]; decide) (B.fresh_p 3) (B.fresh_w 3)
  rw [← HC.out] at HPUT
  have HPUT := Lib.hid HPUT
  have B3 : Hid (Below W.heap.size W w3) := Lib.hid (belT b1 (belT (belA1 (belR _)) b3))
  clear D3 T1 b3
  go_wp2_with fail
  refine Calls.mono HPUT.out ?_
  rintro r w4 ⟨rfl, ⟨hs4, S4⟩, b4⟩
  have B4 : Hid (Below W.heap.size W w4) := Lib.hid (B3.out.trans b4)
  have hsz4 : w3.heap.size ≤ w4.heap.size := b4.size
  have S4 := Lib.hid S4
  have HWC := bwrites_any w4 W.heap.size W.heap.size lv hs4 C (by have := S4.out; unfold SJ at this; exact this.1)
  rw [HWR.out] at HWC
  have HWC := Lib.hid HWC
  clear b4
  go_wp2_with fail
  refine Calls.mono HWC.out ?_
  rintro r w5 ⟨rfl, rfl⟩
  go_wp2_with fail
  have I4 : ∀ X, Below w4.heap.size w4 X → IsBench X W.heap.size W.heap.size lv hs4 C := fun X hX => by have := S4.out; unfold SJ at this; exact this.1.up hX
  have V4 : ∀ X, Below w4.heap.size w4 X → BA (ofB W.heap.size lv hs4) X (.slice (some ⟨w1.heap.size, 0, none⟩) 3 3) [true, false, false] := fun X hX => by have := S4.out; unfold SJ at this; exact this.2.1.up hX
  have D4 : ∀ X, Below w4.heap.size w4 X → PA (ofB W.heap.size lv hs4) X (.slice ad k cd) DL := fun X hX => by have := S4.out; unfold SJ at this; exact this.2.2.up hX
  have L4 := Lib.hid (I4 w4 (belR _)).lts
  have I4 := Lib.hid I4
  have V4 := Lib.hid V4
  have D4 := Lib.hid D4
  have HG1 := bkget_any _ _ _ _ _ _ _ [true, true, true] 7 3 (I4.out _ (belA1 (belR _))) HCLV.out (by rw [HCL.out]; decide) (OwnT.lit w4 #[.bool true, .bool true, .bool true] [true, true, true] (n := 3) rfl rfl rfl (by decide)).bools (by decide) (by decide)
  rw [G1.out] at HG1
  refine Calls.mono HG1 ?_
  clear HG1
  rintro r w6 ⟨xv, rfl, X6, b6⟩
  have X6 := X6 0 rfl
  rw [HOF.out] at X6
  obtain ⟨ax, cx, rfl, _, _⟩ := X6.shape
  rw [HDLN.out]
  rw [HDLN.out] at X6
  have B6 := Lib.hid (belT (belA1 (belR w4)) b6)
  have hsz6 : w4.heap.size < w6.heap.size := by have := b6.size; simp at this; omega
  have X6 := Lib.hid (X6.pa (S := ofB W.heap.size lv hs4) (fun y hy => by have := L4.out y hy; simp; omega))
  clear b6
  go_wp2_with fail
  have HG2 := bkget_any _ _ _ _ _ _ _ [false, true, true] 7 3 (I4.out _ (belT B6.out (belA1 (belR _)))) HCLV.out (by rw [HCL.out]; decide) (OwnT.lit w6 #[.bool false, .bool true, .bool true] [false, true, true] (n := 3) rfl rfl rfl (by decide)).bools (by decide) (by decide)
  rw [G2.out] at HG2
  refine Calls.mono HG2 ?_
  clear HG2
  rintro r w7 ⟨yv, rfl, _, b7⟩
  have B7 := Lib.hid (belT B6.out (belT (belA1 (belR w6)) b7))
  have X7 := Lib.hid (X6.out.up (belT (belA1 (belR w6)) b7))
  clear b7
  have HV3 := (V4.out w7 B7.out).bools
  have HG3 := bkget_any _ _ _ _ _ _ _ _ 7 3 (I4.out w7 B7.out) HCLV.out (by rw [HCL.out]; decide) (HV3.takeI (k := 0) (by decide)) (by decide) (by decide)
  rw [G3.out] at HG3
  have HG3 := Lib.hid HG3
  clear HV3
  go_wp2_with fail
  refine Calls.mono HG3.out ?_
  rintro r w8 ⟨zv, rfl, _, b8⟩
  have B8 := Lib.hid (belT B7.out b8)
  have X8 := Lib.hid (X7.out.up b8)
  clear b8
  have HFA := Lib.hid (bfail_any w8 _ _ _ _ _ 0 (I4.out w8 B8.out) (by rw [HCL.out]; decide))
  rw [← HC2.out] at HFA
  go_wp2_with fail
  refine Calls.mono HFA.out ?_
  rintro r w9 ⟨rfl, hs9, I9, F9, q9⟩
  have B9 : Hid (Below W.heap.size W w9) := Lib.hid (Fr.below (belT B4.out B8.out) F9 (by have := (belT B4.out B8.out).size; omega) (I4.out w8 B8.out).ges)
  have X9 := Lib.hid (X8.out.step F9 q9)
  have D9 := Lib.hid ((D4.out w8 B8.out).step F9 q9)
  have V9 := Lib.hid ((V4.out w8 B8.out).step F9 q9)
  have HG4 := bkget_any _ _ _ _ _ _ _ _ 7 3 I9 HLV2.out (by rw [HC2L.out]; decide) V9.out.bools (by decide) (by decide)
  rw [G4.out] at HG4
  have HG4 := Lib.hid HG4
  clear I9 F9 q9
  go_wp2_with fail
  refine Calls.mono HG4.out ?_
  rintro r wa ⟨uv, rfl, _, ba⟩
  have HSA := same14_any _ _ DL DL wa (X9.out.up ba).parts (D9.out.up ba).parts
  rw [decide_eq_true rfl] at HSA
  have HSA := Lib.hid HSA
  go_wp2_with fail
  refine Calls.mono HSA.out ?_
  rintro r wb ⟨rfl, bb⟩
  go_wp2_with fail
  refine Calls.mono (wakes19_any wb) ?_
  rintro r wc ⟨rfl, bc⟩
  go_wp2
  go_ret
  exact ⟨rfl, belT B9.out (belT ba (belT bb bc))⟩
theorem backupLive_1 (W : World) (v : Value) (l : List Int) (s : Ints W v l) (only fail : Int) (h3 : withinI only 3 = 1) (ho : -9223372036854775808 ≤ only ∧ only ≤ 9223372036854775807) :
    Calls Try.prog 5 #[v, .int .i64 only, .int .i64 fail] W fun e W' => e = .returned (.bool true) ∧ Below W.heap.size W W' := by
  obtain ⟨k, hk⟩ : ∃ k : Nat, (k : Int) = withinI (wrap64 (1 + fail)) 5 := ⟨(withinI (wrap64 (1 + fail)) 5).toNat, by have := withinI_ge (wrap64 (1 + fail)) 5; omega⟩
  have hk5 : k < 5 := by have := withinI_lt (wrap64 (1 + fail)) 5 (by decide); omega
  have W1 := Lib.hid (fun w => within_any only 3 w (by decide) ho.1 ho.2)
  have W2 := Lib.hid (fun w => within_any (wrap64 (1 + fail)) 5 w (by decide) (wrap64_in _).1 (wrap64_in _).2)
  rw [h3] at W1
  rw [← hk] at W2
  obtain ⟨DL, hDL⟩ : ∃ DL, DL = sectL l k := ⟨_, rfl⟩
  have dl : DL.length = k := by rw [hDL]; exact sectL_len l k
  have d32 : ∀ p ∈ DL, p.length = 32 := by rw [hDL]; exact sectL_32 l k
  have d8 : ∀ p ∈ DL, ∀ y ∈ p, y < 256 := by rw [hDL]; exact sectL_byte l k
  have HDL := Lib.hid hDL
  have HS := Lib.hid s
  have D32 := Lib.hid d32
  have HDLN := Lib.hid dl
  obtain ⟨C, hC⟩ : ∃ C, C = B.putB (B.fresh 3) [false, true, false] (headL 7 3 DL :: DL) := ⟨_, rfl⟩
  have HC := Lib.hid hC
  have hU := B.Up.fresh 3
  have hL3 := B.fresh_len 3
  obtain ⟨cu, cl, cw⟩ := B.put_up (lv := [false, true, false]) (e := 7) (x := 3) hU d32 d8 (by omega)
  rw [← hC] at cu cl cw
  rw [hL3] at cl
  have hlive := B.put_live (lv := [false, true, false]) (i := 1) (e := 7) (x := 3) hU d32 d8 (by omega) (by rw [hL3]; decide) rfl
  rw [← hC] at hlive
  have hdead : ∀ i, i < 3 → i ≠ 1 → B.ofOk C i 7 3 = false := by
    intro i hi hne
    have hdl : B.live1 [false, true, false] i = false := by
      have : i = 0 ∨ i = 2 := by omega
      rcases this with rfl | rfl <;> rfl
    rw [hC, (B.put_dead (lv := [false, true, false]) (e := 7) (x := 3) hU d32 d8 (by omega) (by rw [hL3]; exact hi) hdl 7 3).1]
    exact B.ofOk_zero (B.fresh_look 3 i 6 (by decide))
  have G1 : Hid (B.getO C [true, true, true] 7 3 C.ds.length = some 1) := by
    rw [cl]
    exact B.getO_some (by decide) rfl hlive.2.2.2 (fun j hj => by rw [hdead j (by omega) (by omega)]; simp)
  have G2 : Hid (B.getO C [true, false, true] 7 3 C.ds.length = none) := by
    rw [cl]
    refine B.getO_none 3 (fun j hj => ?_)
    by_cases hjm : j = 1
    · subst hjm; rfl
    · rw [hdead j hj hjm]; simp
  have G3 : Hid (B.getO C ([false, true, false].take 1) 7 3 C.ds.length = none) := by
    rw [cl]
    refine B.getO_none 3 (fun j hj => ?_)
    by_cases hjm : j = 1
    · subst hjm; rfl
    · rw [hdead j hj hjm]; simp
  obtain ⟨C2, hC2⟩ : ∃ C2, C2 = { C with ds := C.ds.set 1 D.fail } := ⟨_, rfl⟩
  have c2l : C2.ds.length = 3 := by rw [hC2, B.nil_down]; exact cl
  have G4 : Hid (B.getO C2 [false, true, false] 7 3 C2.ds.length = none) := by
    rw [c2l]
    refine B.getO_none 3 (fun j hj => ?_)
    by_cases hjm : j = 1
    · subst hjm; rw [hC2, B.set_of (by rw [cl]; decide)]; simp
    · have : B.live1 [false, true, false] j = false := by
        have : j = 0 ∨ j = 2 := by omega
        rcases this with rfl | rfl <;> rfl
      rw [this]; rfl
  have HLV2 : Hid (B.Lv C2) := by rw [hC2]; exact B.set_lv cu.lv _
  have HC2 := Lib.hid hC2
  have HC2L := Lib.hid c2l
  have HCL := Lib.hid cl
  have HCLV := Lib.hid cu.lv
  have HOF : Hid (B.ofL C 1 = DL) := hlive.2.2.1
  have HWR : Hid (C.writes = ((k + 1 : Nat) : Int)) := by
    show _ = _
    rw [cw, hL3, dl]
    show (0 : Int) + ((1 * (k + 1) : Nat) : Int) = _
    omega
  have hk1 : IntKind.i64.wrap ((k : Int) + 1) = ((k + 1 : Nat) : Int) := by rw [IntKind.wrap_i64]; omega
  have hkk : ((((k + 1 : Nat) : Int)) != ((k + 1 : Nat) : Int)) = false := by simp
  have HK5 := Lib.hid hk5
  clear s h3 ho hk hDL d8 d32 dl hC hU hL3 cu cl cw hlive hdead hC2 c2l hk5
  go_enter Try.func5, Try.ntmps5
  go_wp2_with fail
  refine Calls.mono (bnew_any W 3 (by decide) (by decide)) ?_
  rintro r w1 ⟨rfl, ⟨lv, hs, I1⟩, b1⟩
  have hlt1 := I1.lts
  have hsz1 : W.heap.size < w1.heap.size := I1.lt
  have I1 := Lib.hid I1
  go_wp2_with fail
  refine Calls.mono (W1.out w1) ?_
  rintro r w2 ⟨rfl, rfl⟩
  go_wp2_with fail
  refine Calls.mono (W2.out _) ?_
  rintro r w2 ⟨rfl, rfl⟩
  have T1 := OwnT.lit w1 #[.bool false, .bool true, .bool false] [false, true, false] (n := 3) (g := w1.heap.size) rfl rfl rfl (by decide)
  go_wp2_with fail
  refine Calls.mono (sectors13_any v l k _ (HS.out.up (belT b1 (belA1 (belR _)))) (by have := HK5.out; omega)) ?_
  rintro r w3 ⟨dv, rfl, D3, b3⟩
  rw [← HDL.out] at D3
  obtain ⟨ad, cd, rfl, _, _⟩ := D3.shape
  rw [HDLN.out]
  rw [HDLN.out] at D3
  have hsz3 : w1.heap.size < w3.heap.size := by have := b3.size; simp at this; omega
  have S3 : Hid (SJ W.heap.size W.heap.size lv hs (B.fresh 3) (.slice (some ⟨w1.heap.size, 0, none⟩) 3 3) [false, true, false] (.slice ad k cd) DL w3) := by
    have e1 := (I1.out.up (belA1 (belR w1) (o1 := Obj.cells #[.bool false, .bool true, .bool false] 4))).up b3
    unfold SJ
    exact ⟨e1, ((T1.up b3).ba hlt1), D3.pa (fun y hy => by have := hlt1 y hy; simp; omega)⟩
  have HPUT := put_sj S3.out (B.Up.fresh 3) (by omega) 7 3 (by decide) (by decide) (by rw [HDLN.out]; have := HK5.out; omega) D32.out (by rw [B.fresh_len]; decide) (B.fresh_p 3) (B.fresh_w 3)
  rw [← HC.out] at HPUT
  have HPUT := Lib.hid HPUT
  have B3 : Hid (Below W.heap.size W w3) := Lib.hid (belT b1 (belT (belA1 (belR _)) b3))
  clear D3 T1 b3
  go_wp2_with fail
  refine Calls.mono HPUT.out ?_
  rintro r w4 ⟨rfl, ⟨hs4, S4⟩, b4⟩
  have B4 : Hid (Below W.heap.size W w4) := Lib.hid (B3.out.trans b4)
  have hsz4 : w3.heap.size ≤ w4.heap.size := b4.size
  have S4 := Lib.hid S4
  have HWC := bwrites_any w4 W.heap.size W.heap.size lv hs4 C (by have := S4.out; unfold SJ at this; exact this.1)
  rw [HWR.out] at HWC
  have HWC := Lib.hid HWC
  clear b4
  go_wp2_with fail
  refine Calls.mono HWC.out ?_
  rintro r w5 ⟨rfl, rfl⟩
  go_wp2_with fail
  have I4 : ∀ X, Below w4.heap.size w4 X → IsBench X W.heap.size W.heap.size lv hs4 C := fun X hX => by have := S4.out; unfold SJ at this; exact this.1.up hX
  have V4 : ∀ X, Below w4.heap.size w4 X → BA (ofB W.heap.size lv hs4) X (.slice (some ⟨w1.heap.size, 0, none⟩) 3 3) [false, true, false] := fun X hX => by have := S4.out; unfold SJ at this; exact this.2.1.up hX
  have D4 : ∀ X, Below w4.heap.size w4 X → PA (ofB W.heap.size lv hs4) X (.slice ad k cd) DL := fun X hX => by have := S4.out; unfold SJ at this; exact this.2.2.up hX
  have L4 := Lib.hid (I4 w4 (belR _)).lts
  have I4 := Lib.hid I4
  have V4 := Lib.hid V4
  have D4 := Lib.hid D4
  have HG1 := bkget_any _ _ _ _ _ _ _ [true, true, true] 7 3 (I4.out _ (belA1 (belR _))) HCLV.out (by rw [HCL.out]; decide) (OwnT.lit w4 #[.bool true, .bool true, .bool true] [true, true, true] (n := 3) rfl rfl rfl (by decide)).bools (by decide) (by decide)
  rw [G1.out] at HG1
  refine Calls.mono HG1 ?_
  clear HG1
  rintro r w6 ⟨xv, rfl, X6, b6⟩
  have X6 := X6 1 rfl
  rw [HOF.out] at X6
  obtain ⟨ax, cx, rfl, _, _⟩ := X6.shape
  rw [HDLN.out]
  rw [HDLN.out] at X6
  have B6 := Lib.hid (belT (belA1 (belR w4)) b6)
  have hsz6 : w4.heap.size < w6.heap.size := by have := b6.size; simp at this; omega
  have X6 := Lib.hid (X6.pa (S := ofB W.heap.size lv hs4) (fun y hy => by have := L4.out y hy; simp; omega))
  clear b6
  go_wp2_with fail
  have HG2 := bkget_any _ _ _ _ _ _ _ [true, false, true] 7 3 (I4.out _ (belT B6.out (belA1 (belR _)))) HCLV.out (by rw [HCL.out]; decide) (OwnT.lit w6 #[.bool true, .bool false, .bool true] [true, false, true] (n := 3) rfl rfl rfl (by decide)).bools (by decide) (by decide)
  rw [G2.out] at HG2
  refine Calls.mono HG2 ?_
  clear HG2
  rintro r w7 ⟨yv, rfl, _, b7⟩
  have B7 := Lib.hid (belT B6.out (belT (belA1 (belR w6)) b7))
  have X7 := Lib.hid (X6.out.up (belT (belA1 (belR w6)) b7))
  clear b7
  have HV3 := (V4.out w7 B7.out).bools
  have HG3 := bkget_any _ _ _ _ _ _ _ _ 7 3 (I4.out w7 B7.out) HCLV.out (by rw [HCL.out]; decide) (HV3.takeI (k := 1) (by decide)) (by decide) (by decide)
  rw [G3.out] at HG3
  have HG3 := Lib.hid HG3
  clear HV3
  go_wp2_with fail
  refine Calls.mono HG3.out ?_
  rintro r w8 ⟨zv, rfl, _, b8⟩
  have B8 := Lib.hid (belT B7.out b8)
  have X8 := Lib.hid (X7.out.up b8)
  clear b8
  have HFA := Lib.hid (bfail_any w8 _ _ _ _ _ 1 (I4.out w8 B8.out) (by rw [HCL.out]; decide))
  rw [← HC2.out] at HFA
  go_wp2_with fail
  refine Calls.mono HFA.out ?_
  rintro r w9 ⟨rfl, hs9, I9, F9, q9⟩
  have B9 : Hid (Below W.heap.size W w9) := Lib.hid (Fr.below (belT B4.out B8.out) F9 (by have := (belT B4.out B8.out).size; omega) (I4.out w8 B8.out).ges)
  have X9 := Lib.hid (X8.out.step F9 q9)
  have D9 := Lib.hid ((D4.out w8 B8.out).step F9 q9)
  have V9 := Lib.hid ((V4.out w8 B8.out).step F9 q9)
  have HG4 := bkget_any _ _ _ _ _ _ _ _ 7 3 I9 HLV2.out (by rw [HC2L.out]; decide) V9.out.bools (by decide) (by decide)
  rw [G4.out] at HG4
  have HG4 := Lib.hid HG4
  clear I9 F9 q9
  go_wp2_with fail
  refine Calls.mono HG4.out ?_
  rintro r wa ⟨uv, rfl, _, ba⟩
  have HSA := same14_any _ _ DL DL wa (X9.out.up ba).parts (D9.out.up ba).parts
  rw [decide_eq_true rfl] at HSA
  have HSA := Lib.hid HSA
  go_wp2_with fail
  refine Calls.mono HSA.out ?_
  rintro r wb ⟨rfl, bb⟩
  go_wp2_with fail
  refine Calls.mono (wakes19_any wb) ?_
  rintro r wc ⟨rfl, bc⟩
  go_wp2
  go_ret
  exact ⟨rfl, belT B9.out (belT ba (belT bb bc))⟩
theorem backupLive_2 (W : World) (v : Value) (l : List Int) (s : Ints W v l) (only fail : Int) (h3 : withinI only 3 = 2) (ho : -9223372036854775808 ≤ only ∧ only ≤ 9223372036854775807) :
    Calls Try.prog 5 #[v, .int .i64 only, .int .i64 fail] W fun e W' => e = .returned (.bool true) ∧ Below W.heap.size W W' := by
  obtain ⟨k, hk⟩ : ∃ k : Nat, (k : Int) = withinI (wrap64 (2 + fail)) 5 := ⟨(withinI (wrap64 (2 + fail)) 5).toNat, by have := withinI_ge (wrap64 (2 + fail)) 5; omega⟩
  have hk5 : k < 5 := by have := withinI_lt (wrap64 (2 + fail)) 5 (by decide); omega
  have W1 := Lib.hid (fun w => within_any only 3 w (by decide) ho.1 ho.2)
  have W2 := Lib.hid (fun w => within_any (wrap64 (2 + fail)) 5 w (by decide) (wrap64_in _).1 (wrap64_in _).2)
  rw [h3] at W1
  rw [← hk] at W2
  obtain ⟨DL, hDL⟩ : ∃ DL, DL = sectL l k := ⟨_, rfl⟩
  have dl : DL.length = k := by rw [hDL]; exact sectL_len l k
  have d32 : ∀ p ∈ DL, p.length = 32 := by rw [hDL]; exact sectL_32 l k
  have d8 : ∀ p ∈ DL, ∀ y ∈ p, y < 256 := by rw [hDL]; exact sectL_byte l k
  have HDL := Lib.hid hDL
  have HS := Lib.hid s
  have D32 := Lib.hid d32
  have HDLN := Lib.hid dl
  obtain ⟨C, hC⟩ : ∃ C, C = B.putB (B.fresh 3) [false, false, true] (headL 7 3 DL :: DL) := ⟨_, rfl⟩
  have HC := Lib.hid hC
  have hU := B.Up.fresh 3
  have hL3 := B.fresh_len 3
  obtain ⟨cu, cl, cw⟩ := B.put_up (lv := [false, false, true]) (e := 7) (x := 3) hU d32 d8 (by omega)
  rw [← hC] at cu cl cw
  rw [hL3] at cl
  have hlive := B.put_live (lv := [false, false, true]) (i := 2) (e := 7) (x := 3) hU d32 d8 (by omega) (by rw [hL3]; decide) rfl
  rw [← hC] at hlive
  have hdead : ∀ i, i < 3 → i ≠ 2 → B.ofOk C i 7 3 = false := by
    intro i hi hne
    have hdl : B.live1 [false, false, true] i = false := by
      have : i = 0 ∨ i = 1 := by omega
      rcases this with rfl | rfl <;> rfl
    rw [hC, (B.put_dead (lv := [false, false, true]) (e := 7) (x := 3) hU d32 d8 (by omega) (by rw [hL3]; exact hi) hdl 7 3).1]
    exact B.ofOk_zero (B.fresh_look 3 i 6 (by decide))
  have G1 : Hid (B.getO C [true, true, true] 7 3 C.ds.length = some 2) := by
    rw [cl]
    exact B.getO_some (by decide) rfl hlive.2.2.2 (fun j hj => by rw [hdead j (by omega) (by omega)]; simp)
  have G2 : Hid (B.getO C [true, true, false] 7 3 C.ds.length = none) := by
    rw [cl]
    refine B.getO_none 3 (fun j hj => ?_)
    by_cases hjm : j = 2
    · subst hjm; rfl
    · rw [hdead j hj hjm]; simp
  have G3 : Hid (B.getO C ([false, false, true].take 2) 7 3 C.ds.length = none) := by
    rw [cl]
    refine B.getO_none 3 (fun j hj => ?_)
    by_cases hjm : j = 2
    · subst hjm; rfl
    · rw [hdead j hj hjm]; simp
  obtain ⟨C2, hC2⟩ : ∃ C2, C2 = { C with ds := C.ds.set 2 D.fail } := ⟨_, rfl⟩
  have c2l : C2.ds.length = 3 := by rw [hC2, B.nil_down]; exact cl
  have G4 : Hid (B.getO C2 [false, false, true] 7 3 C2.ds.length = none) := by
    rw [c2l]
    refine B.getO_none 3 (fun j hj => ?_)
    by_cases hjm : j = 2
    · subst hjm; rw [hC2, B.set_of (by rw [cl]; decide)]; simp
    · have : B.live1 [false, false, true] j = false := by
        have : j = 0 ∨ j = 1 := by omega
        rcases this with rfl | rfl <;> rfl
      rw [this]; rfl
  have HLV2 : Hid (B.Lv C2) := by rw [hC2]; exact B.set_lv cu.lv _
  have HC2 := Lib.hid hC2
  have HC2L := Lib.hid c2l
  have HCL := Lib.hid cl
  have HCLV := Lib.hid cu.lv
  have HOF : Hid (B.ofL C 2 = DL) := hlive.2.2.1
  have HWR : Hid (C.writes = ((k + 1 : Nat) : Int)) := by
    show _ = _
    rw [cw, hL3, dl]
    show (0 : Int) + ((1 * (k + 1) : Nat) : Int) = _
    omega
  have hk1 : IntKind.i64.wrap ((k : Int) + 1) = ((k + 1 : Nat) : Int) := by rw [IntKind.wrap_i64]; omega
  have hkk : ((((k + 1 : Nat) : Int)) != ((k + 1 : Nat) : Int)) = false := by simp
  have HK5 := Lib.hid hk5
  clear s h3 ho hk hDL d8 d32 dl hC hU hL3 cu cl cw hlive hdead hC2 c2l hk5
  go_enter Try.func5, Try.ntmps5
  go_wp2_with fail
  refine Calls.mono (bnew_any W 3 (by decide) (by decide)) ?_
  rintro r w1 ⟨rfl, ⟨lv, hs, I1⟩, b1⟩
  have hlt1 := I1.lts
  have hsz1 : W.heap.size < w1.heap.size := I1.lt
  have I1 := Lib.hid I1
  go_wp2_with fail
  refine Calls.mono (W1.out w1) ?_
  rintro r w2 ⟨rfl, rfl⟩
  go_wp2_with fail
  refine Calls.mono (W2.out _) ?_
  rintro r w2 ⟨rfl, rfl⟩
  have T1 := OwnT.lit w1 #[.bool false, .bool false, .bool true] [false, false, true] (n := 3) (g := w1.heap.size) rfl rfl rfl (by decide)
  go_wp2_with fail
  refine Calls.mono (sectors13_any v l k _ (HS.out.up (belT b1 (belA1 (belR _)))) (by have := HK5.out; omega)) ?_
  rintro r w3 ⟨dv, rfl, D3, b3⟩
  rw [← HDL.out] at D3
  obtain ⟨ad, cd, rfl, _, _⟩ := D3.shape
  rw [HDLN.out]
  rw [HDLN.out] at D3
  have hsz3 : w1.heap.size < w3.heap.size := by have := b3.size; simp at this; omega
  have S3 : Hid (SJ W.heap.size W.heap.size lv hs (B.fresh 3) (.slice (some ⟨w1.heap.size, 0, none⟩) 3 3) [false, false, true] (.slice ad k cd) DL w3) := by
    have e1 := (I1.out.up (belA1 (belR w1) (o1 := Obj.cells #[.bool false, .bool false, .bool true] 4))).up b3
    unfold SJ
    exact ⟨e1, ((T1.up b3).ba hlt1), D3.pa (fun y hy => by have := hlt1 y hy; simp; omega)⟩
  have HPUT := put_sj S3.out (B.Up.fresh 3) (by omega) 7 3 (by decide) (by decide) (by rw [HDLN.out]; have := HK5.out; omega) D32.out (by rw [B.fresh_len]; decide) (B.fresh_p 3) (B.fresh_w 3)
  rw [← HC.out] at HPUT
  have HPUT := Lib.hid HPUT
  have B3 : Hid (Below W.heap.size W w3) := Lib.hid (belT b1 (belT (belA1 (belR _)) b3))
  clear D3 T1 b3
  go_wp2_with fail
  refine Calls.mono HPUT.out ?_
  rintro r w4 ⟨rfl, ⟨hs4, S4⟩, b4⟩
  have B4 : Hid (Below W.heap.size W w4) := Lib.hid (B3.out.trans b4)
  have hsz4 : w3.heap.size ≤ w4.heap.size := b4.size
  have S4 := Lib.hid S4
  have HWC := bwrites_any w4 W.heap.size W.heap.size lv hs4 C (by have := S4.out; unfold SJ at this; exact this.1)
  rw [HWR.out] at HWC
  have HWC := Lib.hid HWC
  clear b4
  go_wp2_with fail
  refine Calls.mono HWC.out ?_
  rintro r w5 ⟨rfl, rfl⟩
  go_wp2_with fail
  have I4 : ∀ X, Below w4.heap.size w4 X → IsBench X W.heap.size W.heap.size lv hs4 C := fun X hX => by have := S4.out; unfold SJ at this; exact this.1.up hX
  have V4 : ∀ X, Below w4.heap.size w4 X → BA (ofB W.heap.size lv hs4) X (.slice (some ⟨w1.heap.size, 0, none⟩) 3 3) [false, false, true] := fun X hX => by have := S4.out; unfold SJ at this; exact this.2.1.up hX
  have D4 : ∀ X, Below w4.heap.size w4 X → PA (ofB W.heap.size lv hs4) X (.slice ad k cd) DL := fun X hX => by have := S4.out; unfold SJ at this; exact this.2.2.up hX
  have L4 := Lib.hid (I4 w4 (belR _)).lts
  have I4 := Lib.hid I4
  have V4 := Lib.hid V4
  have D4 := Lib.hid D4
  have HG1 := bkget_any _ _ _ _ _ _ _ [true, true, true] 7 3 (I4.out _ (belA1 (belR _))) HCLV.out (by rw [HCL.out]; decide) (OwnT.lit w4 #[.bool true, .bool true, .bool true] [true, true, true] (n := 3) rfl rfl rfl (by decide)).bools (by decide) (by decide)
  rw [G1.out] at HG1
  refine Calls.mono HG1 ?_
  clear HG1
  rintro r w6 ⟨xv, rfl, X6, b6⟩
  have X6 := X6 2 rfl
  rw [HOF.out] at X6
  obtain ⟨ax, cx, rfl, _, _⟩ := X6.shape
  rw [HDLN.out]
  rw [HDLN.out] at X6
  have B6 := Lib.hid (belT (belA1 (belR w4)) b6)
  have hsz6 : w4.heap.size < w6.heap.size := by have := b6.size; simp at this; omega
  have X6 := Lib.hid (X6.pa (S := ofB W.heap.size lv hs4) (fun y hy => by have := L4.out y hy; simp; omega))
  clear b6
  go_wp2_with fail
  have HG2 := bkget_any _ _ _ _ _ _ _ [true, true, false] 7 3 (I4.out _ (belT B6.out (belA1 (belR _)))) HCLV.out (by rw [HCL.out]; decide) (OwnT.lit w6 #[.bool true, .bool true, .bool false] [true, true, false] (n := 3) rfl rfl rfl (by decide)).bools (by decide) (by decide)
  rw [G2.out] at HG2
  refine Calls.mono HG2 ?_
  clear HG2
  rintro r w7 ⟨yv, rfl, _, b7⟩
  have B7 := Lib.hid (belT B6.out (belT (belA1 (belR w6)) b7))
  have X7 := Lib.hid (X6.out.up (belT (belA1 (belR w6)) b7))
  clear b7
  have HV3 := (V4.out w7 B7.out).bools
  have HG3 := bkget_any _ _ _ _ _ _ _ _ 7 3 (I4.out w7 B7.out) HCLV.out (by rw [HCL.out]; decide) (HV3.takeI (k := 2) (by decide)) (by decide) (by decide)
  rw [G3.out] at HG3
  have HG3 := Lib.hid HG3
  clear HV3
  go_wp2_with fail
  refine Calls.mono HG3.out ?_
  rintro r w8 ⟨zv, rfl, _, b8⟩
  have B8 := Lib.hid (belT B7.out b8)
  have X8 := Lib.hid (X7.out.up b8)
  clear b8
  have HFA := Lib.hid (bfail_any w8 _ _ _ _ _ 2 (I4.out w8 B8.out) (by rw [HCL.out]; decide))
  rw [← HC2.out] at HFA
  go_wp2_with fail
  refine Calls.mono HFA.out ?_
  rintro r w9 ⟨rfl, hs9, I9, F9, q9⟩
  have B9 : Hid (Below W.heap.size W w9) := Lib.hid (Fr.below (belT B4.out B8.out) F9 (by have := (belT B4.out B8.out).size; omega) (I4.out w8 B8.out).ges)
  have X9 := Lib.hid (X8.out.step F9 q9)
  have D9 := Lib.hid ((D4.out w8 B8.out).step F9 q9)
  have V9 := Lib.hid ((V4.out w8 B8.out).step F9 q9)
  have HG4 := bkget_any _ _ _ _ _ _ _ _ 7 3 I9 HLV2.out (by rw [HC2L.out]; decide) V9.out.bools (by decide) (by decide)
  rw [G4.out] at HG4
  have HG4 := Lib.hid HG4
  clear I9 F9 q9
  go_wp2_with fail
  refine Calls.mono HG4.out ?_
  rintro r wa ⟨uv, rfl, _, ba⟩
  have HSA := same14_any _ _ DL DL wa (X9.out.up ba).parts (D9.out.up ba).parts
  rw [decide_eq_true rfl] at HSA
  have HSA := Lib.hid HSA
  go_wp2_with fail
  refine Calls.mono HSA.out ?_
  rintro r wb ⟨rfl, bb⟩
  go_wp2_with fail
  refine Calls.mono (wakes19_any wb) ?_
  rintro r wc ⟨rfl, bc⟩
  go_wp2
  go_ret
  exact ⟨rfl, belT B9.out (belT ba (belT bb bc))⟩
theorem backupLive_law (W : World) (v : Value) (l : List Int) (s : Ints W v l) (hb : l.length * 8 ≤ 140737488351232) (only : Int) (ho : -9223372036854775808 ≤ only ∧ only ≤ 9223372036854775807) (fail : Int) (hf : -9223372036854775808 ≤ fail ∧ fail ≤ 9223372036854775807) :
    Calls Try.prog 5 #[v, .int .i64 only, .int .i64 fail] W fun e W' => e = .returned (.bool true) ∧ Below W.heap.size W W' := by
  have h1 := withinI_ge only 3
  have h2 := withinI_lt only 3 (by decide)
  have h3 : withinI only 3 = 0 ∨ withinI only 3 = 1 ∨ withinI only 3 = 2 := by omega
  rcases h3 with h | h | h
  · exact backupLive_0 W v l s only fail h ho
  · exact backupLive_1 W v l s only fail h ho
  · exact backupLive_2 W v l s only fail h ho
end Go.Proofs.Ytenjpldinnbcbaa
