/- The walk of record.Decode. -/
import Derived.Test.YtenjpldinnbcbaaRecB
import Derived.Test.YtenjpldinnbcbaaRecO1
import Derived.Test.YtenjpldinnbcbaaRecOk
import Derived.Test.YtenjpldinnbcbaaSupA
namespace Go.Proofs.Ytenjpldinnbcbaa
open Go.RowKit C
set_option linter.unusedVariables false
set_option linter.unusedSimpArgs false
set_option maxRecDepth 100000
set_option maxHeartbeats 1000000

/-- items that lie in blocks not older than base -/
def ItemsF (w : World) (base : Nat) (v : Value) (l : List RI) : Prop := ∃ T, l = T.map Prod.fst ∧ OwnI 56 w base v T ∧ ∀ p ∈ T, ∀ g, p.2.ownBlock = some g → base ≤ g
theorem ItemsF.items {w : World} {base : Nat} {v : Value} {l : List RI} (h : ItemsF w base v l) : Items w v l := by
  obtain ⟨T, e, o, _⟩ := h
  rw [e]; exact o.items
theorem ItemsF.nil (w : World) (base : Nat) : ItemsF w base (.slice none 0 0) [] := ⟨[], rfl, OwnI.nil _ _ _, fun p hp => by cases hp⟩
theorem ItemsF.up {w w' : World} {base : Nat} {v : Value} {l : List RI} (h : ItemsF w base v l) (k : Below w.heap.size w w') : ItemsF w' base v l := by
  obtain ⟨T, e, o, f⟩ := h
  exact ⟨T, e, o.up k, f⟩
theorem ItemsF.fr {S : Nat → Prop} {w w' : World} {base : Nat} {v : Value} {l : List RI} (h : ItemsF w base v l) (k : Fr S w w') (hS : ∀ y, S y → y < base) : ItemsF w' base v l := by
  obtain ⟨T, e, o, f⟩ := h
  exact ⟨T, e, o.fr k (fun g hg hs => by have := o.ge g hg; have := hS g hs; omega) (fun p hp g hg hs => by have := f p hp g hg; have := hS g hs; omega), f⟩
theorem OwnI.low {e : TypeId} {w : World} {base base' : Nat} {v : Value} {T : List (RI × Value)} (h : OwnI e w base v T) (hb : base' ≤ base) : OwnI e w base' v T := by
  refine ⟨⟨h.1.1, ?_⟩, h.2⟩
  rcases h.1.2 with ⟨e, hn⟩ | ⟨b, cap, cur, e, hge, r⟩
  · exact .inl ⟨e, hn⟩
  · exact .inr ⟨b, cap, cur, e, Nat.le_trans hb hge, r⟩
/-- what Decode answers of sectors -/
def DecP (ls : List (List Nat)) (w : World) (e : Ending) (w' : World) : Prop :=
  ∃ (s : Int) (v : Value) (l : List RI) (er : Int), e = .returned (.tuple #[.agg #[.int .i64 s, v], .int .i64 er]) ∧ ItemsF w' w.heap.size v l ∧ i64b s ∧ Below w.heap.size w w' ∧ ((ris ls = true ∧ er = 0 ∧ s = rnum ls ∧ l = rlist ls) ∨ (ris ls = false ∧ er = 2 ∧ s = 0 ∧ l = []))
theorem dec_none {ls : List (List Nat)} {w w' : World} (h : ris ls = false) (hb : Below w.heap.size w w') : DecP ls w (.returned (.tuple #[.agg #[.int .i64 0, .slice none 0 0], .int .i64 2])) w' :=
  ⟨0, .slice none 0 0, [], 2, rfl, ItemsF.nil _ _, ⟨by decide, by decide⟩, hb, .inr ⟨h, rfl, rfl, rfl⟩⟩
theorem rform_bad {ls : List (List Nat)} (h : ls.length = 4) : rform ls = !(ls.any badB) := by
  unfold rform
  rw [h, List.all_eq_not_any_not]
  have e : (fun b : List Nat => !(b.length == 32)) = badB := by
    funext b
    unfold badB
    rw [Bool.eq_iff_iff, decide_eq_true_iff]
    simp
  rw [e]
  rfl
theorem ris_form {ls : List (List Nat)} (h : rform ls = false) : ris ls = false := by unfold ris; rw [h]; rfl
theorem decode_any (v : Value) (ls : List (List Nat)) (w : World) (h : Parts w v ls) :
    Calls Try.prog 70 #[v] w (DecP ls w) := by
  obtain ⟨j0, hj, hy0, hy1, hy2⟩ := info_parts uint8_info
  obtain ⟨i0, hi, hz0, hz1, hz2⟩ := info_parts item_info
  have HP := Lib.hid h
  obtain ⟨ao, cap, rfl, hc1, hc2⟩ := h.shape
  obtain ⟨n, hn⟩ : ∃ n, n = ls.length := ⟨_, rfl⟩
  have HN := Lib.hid hn
  have B0 : Below w.heap.size w (w.alloc (.cells #[.int .i64 0, .slice none 0 0] 59)) := belA1 (belR _)
  rw [← hn] at HP hc1 ⊢
  clear h hn
  by_cases h4 : n = 4
  · subst h4
    have hcb := fun X (hX : Below w.heap.size w X) => rcbad_any _ ls X (HP.out.up hX)
    cases hbad : ls.any badB with
    | true =>
      have hno : Hid (ris ls = false) := ris_form (by rw [rform_bad HN.out.symm, hbad]; rfl)
      rw [hbad] at hcb
      have HCB := Lib.hid hcb
      clear hcb hbad
      go_enter Try.func70, Try.ntmps70
      go_wp2_with fail
      refine Calls.mono (HCB.out _ B0) ?_
      rintro e w1 ⟨rfl, D⟩
      have XR := (Box.new w [.int .i64 0, .slice none 0 0] 59).fr (Fr.of_below (S := fun _ => False) (D.below _)) id
      have B1 : Below w.heap.size w w1 := belT B0 (D.below _)
      obtain ⟨⟨r0, r1⟩, r2, r3⟩ := XR.two
      go_wp2_with fail
      obtain ⟨⟨f0, f1⟩, _, _⟩ := ((XR.set 0 (.int .i64 0)).set 1 (.slice none 0 0)).two
      exact bodyPost_ret (v := .tuple #[.agg #[.int .i64 0, .slice none 0 0], .int .i64 2]) (by simp [results, Try.results70, go_sem, f0, f1]) rfl (dec_none hno.out ((B1.setCell (Nat.le_refl _) _).setCell (Nat.le_refl _) _))
    | false =>
      have hform : Hid (rform ls = true) := by show _ = _; rw [rform_bad HN.out.symm, hbad]; rfl
      have h32 : Hid (∀ b ∈ ls, b.length = 32) := ((rform_iff ls).1 hform.out).2
      rw [hbad] at hcb
      have HCB := Lib.hid hcb
      clear hcb hbad
      obtain ⟨rb, ro, c0, p0, rfl, hc0, hp0, hy0⟩ := HP.out.get (k := 0) (by rw [← HN.out]; decide)
      have h032 := h32.out p0 (List.mem_of_getElem? hp0.out)
      obtain ⟨a0, k0, rfl, hk1, hk2⟩ := hy0.shapeN h032
      obtain ⟨b0, o0, _, rfl, _⟩ := hy0.get (k := 0) (by decide)
      rw [Nat.add_zero] at hc0
      have HC0 : Hid (∀ X, Below w.heap.size w X → X.cell? ⟨rb, ro, none⟩ = some (.slice (some ⟨b0, o0, none⟩) 32 k0)) := fun X hX => cell_fr hc0 (Fr.of_below (S := fun _ => False) hX) id
      have HY0 := Lib.hid hy0
      have HM : Hid (Byt w (.slice (some ⟨b0, o0 + 4, none⟩) 4 (k0 - 4)) ((p0.drop 4).take 4)) := (hy0.drop (k := 4) (by decide)).takeI (by decide)
      obtain ⟨m, hm⟩ : ∃ m, m = (p0.drop 4).take 4 := ⟨_, rfl⟩
      rw [← hm] at HM
      have HSQ : Hid (rnum ls = (num m : Nat)) := by
        show _ = _
        rw [hm]
        unfold rnum rseq
        rw [show ls.getD 0 [] = p0 by rw [List.getD_eq_getElem?_getD, hp0.out]; rfl]
      have hm4 : m.length = 4 := by rw [hm, List.length_take, List.length_drop, h032]; rfl
      have HM4 := Lib.hid hm4
      clear hc0 hy0 hm hm4
      have hk0 : ¬ k0 = 4 := by omega
      go_enter Try.func70, Try.ntmps70
      go_wp2_with fail
      refine Calls.mono (HCB.out _ B0) ?_
      rintro e w1 ⟨rfl, D⟩
      have XR := (Box.new w [.int .i64 0, .slice none 0 0] 59).fr (Fr.of_below (S := fun _ => False) (D.below _)) id
      have B1 : Below w.heap.size w w1 := belT B0 (D.below _)
      have hsz : w1.heap.size = w.heap.size + 1 := by rw [D.heap]; simp
      have RB : RS w (w1.alloc (.cells #[.int .i64 0, .slice none 0 0] 59)) 0 (.slice none 0 0) [] := by
        have b1 := Box.new w1 [.int .i64 0, .slice none 0 0] 59
        rw [hsz] at b1
        exact ⟨b1, XR.fr (Fr.alloc (S := fun _ => False) _ _) id, OwnI.nil _ _ _, (fun p hp => by cases hp), belT B1 (belA1 (belR _)), by simp; omega⟩
      have HSZ := Lib.hid hsz
      have cr := HC0.out _ RB.bel
      obtain ⟨wB, hwB⟩ : ∃ wB, wB = w1.alloc (.cells #[.int .i64 0, .slice none 0 0] 59) := ⟨_, rfl⟩
      have HWB := Lib.hid hwB
      go_wp2_with fail
      rw [← hwB]
      rw [← hwB] at RB
      clear hwB hsz cr XR D
      go_loopw [23] (fun i W => ∃ k x : Nat, k ≤ 4 ∧ i = .int .i64 k ∧ x < 256 ^ k ∧ Hid (num (m.take k) = x) ∧ Hid (RS w W (x : Nat) (.slice none 0 0) [])) (fun i _ => 4 - (intOf i).toNat)
      case atStart => exact ⟨0, 0, by decide, rfl, by decide, Lib.hid rfl, Lib.hid RB⟩
      case round =>
        clear RB
        obtain ⟨k, x, hk, rfl, hx, HX, HR⟩ := hrel
        by_cases hkt : k < 4
        · obtain ⟨b', off', c, e, hc, hck, hc8⟩ := (HM.out.up HR.out.bel).get (k := k) hkt
          simp only [Option.some.injEq, Addr.mk.injEq] at e
          obtain ⟨rfl, rfl, _⟩ := e
          have hp : (256 : Nat) ^ k ≤ 256 ^ 3 := Nat.pow_le_pow_right (by decide) (by omega)
          have hx2 : x < 16777216 := Nat.lt_of_lt_of_le hx hp
          have hor := bor64 (a := x) (c := c) (by omega) hc8
          have hx3 : x * 256 + c < 256 ^ (k + 1) := by rw [Nat.pow_succ]; omega
          obtain ⟨⟨cg, cg1⟩, fg, fg1⟩ := HR.out.box.two
          have HR2 := Lib.hid (HR.out.seq ((x * 256 + c : Nat) : Int))
          clear hp hx
          go_wp2
          go_roundw
          case rel => exact ⟨k + 1, x * 256 + c, by omega, by go_num, hx3, Lib.hid (by rw [take_succ_get hck.out, num_snoc, HX.out]), HR2⟩
          case measure => simp [intOf]; omega
        · have hm4 : m.take k = m := List.take_of_length_le (by rw [HM4.out]; omega)
          have hx' : (x : Nat) = num m := by rw [← HX.out, hm4]
          have hxb : x < 4294967296 := by have : (256 : Nat) ^ k ≤ 256 ^ 4 := Nat.pow_le_pow_right (by decide) hk; omega
          have HXM := Lib.hid hx'
          clear hm4 hx' hx
          obtain ⟨x8, hx8⟩ : ∃ x8, p0[8]? = some x8 := ⟨_, List.getElem?_eq_getElem (by omega)⟩
          obtain ⟨b', off', c8, e, hc8, hck8, hc88⟩ := (HY0.out.up HR.out.bel).get (k := 8) (by decide)
          simp only [Option.some.injEq, Addr.mk.injEq] at e
          obtain ⟨rfl, rfl, _⟩ := e
          have hxx : c8 = x8 := by have := hck8.out; rw [hx8] at this; exact (Option.some.inj this).symm
          subst hxx
          obtain ⟨cn, hcn⟩ : ∃ cn, cn = rcount p0 := ⟨_, rfl⟩
          have hcn2 : cn = Nat.min c8 3 := by rw [hcn]; unfold rcount; rw [List.getD_eq_getElem?_getD, hx8]; rfl
          have hcn3 : cn ≤ 3 := by rw [hcn2]; exact Nat.min_le_right _ _
          have HMIN : Hid ((cn : Int) = min (c8 : Int) 3) := by show _ = _; rw [hcn2]; show ((min c8 3 : Nat) : Int) = min (c8 : Int) 3; omega
          have HCN : Hid (rlist ls = ritems ls cn) := by
            show _ = _
            unfold rlist
            rw [show ls.getD 0 [] = p0 by rw [List.getD_eq_getElem?_getD, hp0.out]; rfl, ← hcn]
          have cr := HC0.out _ HR.out.bel
          clear hcn hcn2 hx8 hck8
          go_upto_region 9 with (fail)
          go_cut [41, 42] from 35 (fun a i W => a = .int .i64 (cn : Int) ∧ i = .int .i64 0 ∧ wr = W)
          case first =>
            go_wp2_with fail
            all_goals
              go_meet
              case rel =>
                have h9 := HMIN.out
                refine ⟨?_, rfl, rfl⟩
                first
                  | (simp only [Value.int.injEq, true_and]; omega)
                  | (rw [Value.int.injEq]; exact ⟨rfl, by omega⟩)
          obtain ⟨rfl, rfl, rfl⟩ := hcut
          go_wp2_with fail
          go_loopw [42] (fun i W => ∃ (j : Nat) (v : Value) (T : List (RI × Value)), j ≤ cn ∧ i = .int .i64 j ∧ Hid (T.map Prod.fst = ritems ls j) ∧ Hid (RS w W (num m : Nat) v T)) (fun i _ => cn - (intOf i).toNat)
          case atStart =>
            exact ⟨0, _, [], by omega, rfl, Lib.hid rfl, Lib.hid (by rw [← HXM.out]; exact HR.out)⟩
          case round =>
            clear HR cr hc8
            obtain ⟨j, v, T, hj, rfl, hT, HR⟩ := hrel
            have Bw : Below w.heap.size w wr := HR.out.bel
            by_cases hjc : j < cn
            · obtain ⟨rb', ro', cj, pj, he, hcj, hpj, hyj⟩ := HP.out.get (k := 1 + j) (by rw [← HN.out]; omega)
              simp only [Option.some.injEq, Addr.mk.injEq] at he
              obtain ⟨rfl, rfl, _⟩ := he
              have hj32 := h32.out pj (List.mem_of_getElem? hpj.out)
              obtain ⟨aj, kj, rfl, _, _⟩ := hyj.shapeN hj32
              obtain ⟨b1, o1, d1, e1, hd1, hd1k, hd18⟩ := HY0.out.get (k := 9 + 2 * j) (by omega)
              simp only [Option.some.injEq, Addr.mk.injEq] at e1
              obtain ⟨rfl, rfl, _⟩ := e1
              obtain ⟨b2, o2, d2, e2, hd2, hd2k, hd28⟩ := HY0.out.get (k := 10 + 2 * j) (by omega)
              simp only [Option.some.injEq, Addr.mk.injEq] at e2
              obtain ⟨rfl, rfl, _⟩ := e2
              have HIT : Hid (ritem ls j = ⟨(d1 : Nat), (d2 : Nat), pj⟩) := by
                show _ = _
                unfold ritem
                rw [show ls.getD 0 [] = p0 by rw [List.getD_eq_getElem?_getD, hp0.out]; rfl, show ls.getD (1 + j) [] = pj by rw [List.getD_eq_getElem?_getD, hpj.out]; rfl, List.getD_eq_getElem?_getD, hd1k.out, List.getD_eq_getElem?_getD, hd2k.out]
                rfl
              obtain ⟨j9, hj9⟩ : ∃ j9, j9 = 9 + 2 * j := ⟨_, rfl⟩
              obtain ⟨j10, hj10⟩ : ∃ j10, j10 = 10 + 2 * j := ⟨_, rfl⟩
              obtain ⟨j1, hj1⟩ : ∃ j1, j1 = 1 + j := ⟨_, rfl⟩
              rw [← hj9] at hd1
              rw [← hj10] at hd2
              rw [← hj1] at hcj
              have kw2 : IntKind.i64.wrap (2 * (j : Int)) = 2 * (j : Int) := by rw [IntKind.wrap_i64]; omega
              have kw9 : IntKind.i64.wrap (9 + 2 * (j : Int)) = (j9 : Int) := by rw [IntKind.wrap_i64]; omega
              have kw10 : IntKind.i64.wrap (10 + 2 * (j : Int)) = (j10 : Int) := by rw [IntKind.wrap_i64]; omega
              have kw1 : IntKind.i64.wrap (1 + (j : Int)) = (j1 : Int) := by rw [IntKind.wrap_i64]; omega
              have kwd1 : IntKind.i64.wrap (d1 : Int) = (d1 : Int) := by rw [IntKind.wrap_i64]; omega
              have kwd2 : IntKind.i64.wrap (d2 : Int) = (d2 : Int) := by rw [IntKind.wrap_i64]; omega
              have u9 : (0 : Int) ≤ (j9 : Int) := by omega
              have u10 : (0 : Int) ≤ (j10 : Int) := by omega
              have u1 : (0 : Int) ≤ (j1 : Int) := by omega
              have v9 : (j9 : Int) < 32 := by omega
              have v10 : (j10 : Int) < 32 := by omega
              have v1 : (j1 : Int) < 4 := by omega
              have HCL : Hid (∀ X, Below w.heap.size w X → X.cell? ⟨rb, ro, none⟩ = some (.slice (some ⟨b0, o0, none⟩) 32 k0) ∧ X.cell? ⟨rb, ro + j1, none⟩ = some (.slice aj 32 kj) ∧ X.cell? ⟨b0, o0 + j9, none⟩ = some (.int .u8 (d1 : Nat)) ∧ X.cell? ⟨b0, o0 + j10, none⟩ = some (.int .u8 (d2 : Nat))) := fun X hX => ⟨HC0.out X hX, cell_fr hcj (Fr.of_below (S := fun _ => False) hX) id, cell_fr hd1 (Fr.of_below (S := fun _ => False) hX) id, cell_fr hd2 (Fr.of_below (S := fun _ => False) hX) id⟩
              have HB1 : Hid (∀ X, Below wr.heap.size wr X → X.cell? ⟨w.heap.size + 1, 1, none⟩ = some v) := fun X hX => (HR.out.below hX).box.two.1.2
              have HYJ := Lib.hid hyj
              have HJ32 := Lib.hid hj32
              clear hcj hd1 hd2 hj9 hj10 hj1 hyj hj32
              have hTl : Hid (T.length = j) := by show _ = _; have := congrArg List.length hT.out; rw [List.length_map, ritems_len] at this; exact this
              have hjci : (j : Int) < (cn : Int) := by omega
              go_wp2_with fail
              refine wp_region_held_drew (S := fun X => X.cell? ⟨rb, ro, none⟩ = some (.slice (some ⟨b0, o0, none⟩) 32 k0) ∧ X.cell? ⟨rb, ro + j1, none⟩ = some (.slice aj 32 kj) ∧ X.cell? ⟨b0, o0 + j9, none⟩ = some (.int .u8 (d1 : Nat)) ∧ X.cell? ⟨b0, o0 + j10, none⟩ = some (.int .u8 (d2 : Nat))) (by kernel_rfl) (show World.cell? _ _ = _ ∧ World.cell? _ _ = _ ∧ World.cell? _ _ = _ ∧ World.cell? _ _ = _ from HCL.out _ (belT Bw (by iterate 8 try (first | assumption | exact belR _ | apply belDr | apply belAlloc)))) (fun hHeld => ?_)
              refine wpAnyH_take (i := 0) (oi := _) (v := ?_) rfl (by kernel_rfl) (by kernel_rfl) (by kernel_rfl) (fun _ _ _ h => h) (Or.inl ⟨by rfl, ?_⟩) (by assumption) ?_
              rotate_left
              · intro w hSw
                (try dsimp only at hSw)
                go_simp
                try with_reducible rfl
              try simp only [Act.put, List.getElem_toArray, List.getElem_cons_zero, List.getElem_cons_succ, List.setIfInBounds_toArray, List.set_cons_zero, List.set_cons_succ]
              refine wpAnyH_take (i := 2) (oi := _) (v := ?_) rfl (by kernel_rfl) (by kernel_rfl) (by kernel_rfl) (fun _ _ _ h => h) (Or.inl ⟨by rfl, ?_⟩) (by assumption) ?_
              rotate_left
              · intro w hSw
                (try dsimp only at hSw)
                go_simp
                try with_reducible rfl
              try simp only [Act.put, List.getElem_toArray, List.getElem_cons_zero, List.getElem_cons_succ, List.setIfInBounds_toArray, List.set_cons_zero, List.set_cons_succ]
              refine wpAnyH_take (i := 5) (oi := _) (v := ?_) rfl (by kernel_rfl) (by kernel_rfl) (by kernel_rfl) (fun _ _ _ h => h) (Or.inl ⟨by rfl, ?_⟩) (by assumption) ?_
              rotate_left
              · intro w hSw
                (try dsimp only at hSw)
                go_simp
                try with_reducible rfl
              try simp only [Act.put, List.getElem_toArray, List.getElem_cons_zero, List.getElem_cons_succ, List.setIfInBounds_toArray, List.set_cons_zero, List.set_cons_succ]
              refine wpAnyH_take (i := 11) (oi := _) (v := ?_) rfl (by kernel_rfl) (by kernel_rfl) (by kernel_rfl) (fun _ _ _ h => h) (Or.inl ⟨by rfl, ?_⟩) (by assumption) ?_
              rotate_left
              · intro w hSw
                (try dsimp only at hSw)
                go_simp
                try with_reducible rfl
              try simp only [Act.put, List.getElem_toArray, List.getElem_cons_zero, List.getElem_cons_succ, List.setIfInBounds_toArray, List.set_cons_zero, List.set_cons_succ]
              refine wpAnyH_take (i := 14) (oi := _) (v := ?_) rfl (by kernel_rfl) (by kernel_rfl) (by kernel_rfl) (fun _ _ _ h => h) (Or.inl ⟨by rfl, ?_⟩) (by assumption) ?_
              rotate_left
              · intro w hSw
                (try dsimp only at hSw)
                go_simp
                try with_reducible rfl
              try simp only [Act.put, List.getElem_toArray, List.getElem_cons_zero, List.getElem_cons_succ, List.setIfInBounds_toArray, List.set_cons_zero, List.set_cons_succ]
              refine wpAnyH_take (i := 20) (oi := _) (v := ?_) rfl (by kernel_rfl) (by kernel_rfl) (by kernel_rfl) (fun _ _ _ h => h) (Or.inl ⟨by rfl, ?_⟩) (by assumption) ?_
              rotate_left
              · intro w hSw
                (try dsimp only at hSw)
                go_simp
                try with_reducible rfl
              try simp only [Act.put, List.getElem_toArray, List.getElem_cons_zero, List.getElem_cons_succ, List.setIfInBounds_toArray, List.set_cons_zero, List.set_cons_succ]
              refine wpAnyH_take (i := 21) (oi := _) (v := ?_) rfl (by kernel_rfl) (by kernel_rfl) (by kernel_rfl) (fun _ _ _ h => h) (Or.inl ⟨by rfl, ?_⟩) (by assumption) ?_
              rotate_left
              · intro w hSw
                (try dsimp only at hSw)
                go_simp
                try with_reducible rfl
              try simp only [Act.put, List.getElem_toArray, List.getElem_cons_zero, List.getElem_cons_succ, List.setIfInBounds_toArray, List.set_cons_zero, List.set_cons_succ]
              refine wpAnyH_take (i := 3) (oi := _) (v := ?_) rfl (by kernel_rfl) (by kernel_rfl) (by kernel_rfl) (fun _ _ _ h => h) (Or.inl ⟨by rfl, ?_⟩) (by assumption) ?_
              rotate_left
              · intro w hSw
                (try dsimp only at hSw)
                go_simp
                try with_reducible rfl
              try simp only [Act.put, List.getElem_toArray, List.getElem_cons_zero, List.getElem_cons_succ, List.setIfInBounds_toArray, List.set_cons_zero, List.set_cons_succ]
              refine wpAnyH_take (i := 6) (oi := _) (v := ?_) rfl (by kernel_rfl) (by kernel_rfl) (by kernel_rfl) (fun _ _ _ h => h) (Or.inl ⟨by rfl, ?_⟩) (by assumption) ?_
              rotate_left
              · intro w hSw
                (try dsimp only at hSw)
                go_simp
                try with_reducible rfl
              try simp only [Act.put, List.getElem_toArray, List.getElem_cons_zero, List.getElem_cons_succ, List.setIfInBounds_toArray, List.set_cons_zero, List.set_cons_succ]
              refine wpAnyH_take (i := 12) (oi := _) (v := ?_) rfl (by kernel_rfl) (by kernel_rfl) (by kernel_rfl) (fun _ _ _ h => h) (Or.inl ⟨by rfl, ?_⟩) (by assumption) ?_
              rotate_left
              · intro w hSw
                (try dsimp only at hSw)
                go_simp
                try with_reducible rfl
              try simp only [Act.put, List.getElem_toArray, List.getElem_cons_zero, List.getElem_cons_succ, List.setIfInBounds_toArray, List.set_cons_zero, List.set_cons_succ]
              refine wpAnyH_take (i := 15) (oi := _) (v := ?_) rfl (by kernel_rfl) (by kernel_rfl) (by kernel_rfl) (fun _ _ _ h => h) (Or.inl ⟨by rfl, ?_⟩) (by assumption) ?_
              rotate_left
              · intro w hSw
                (try dsimp only at hSw)
                go_simp
                try with_reducible rfl
              try simp only [Act.put, List.getElem_toArray, List.getElem_cons_zero, List.getElem_cons_succ, List.setIfInBounds_toArray, List.set_cons_zero, List.set_cons_succ]
              refine wpAnyH_take (i := 22) (oi := _) (v := ?_) rfl (by kernel_rfl) (by kernel_rfl) (by kernel_rfl) (fun _ _ _ h => h) (Or.inl ⟨by rfl, ?_⟩) (by assumption) ?_
              rotate_left
              · intro w hSw
                (try dsimp only at hSw)
                go_simp
                try with_reducible rfl
              try simp only [Act.put, List.getElem_toArray, List.getElem_cons_zero, List.getElem_cons_succ, List.setIfInBounds_toArray, List.set_cons_zero, List.set_cons_succ]
              refine wpAnyH_take (i := 4) (oi := _) (v := ?_) rfl (by kernel_rfl) (by kernel_rfl) (by kernel_rfl) (fun _ _ _ h => h) (Or.inl ⟨by rfl, ?_⟩) (by assumption) ?_
              rotate_left
              · intro w hSw
                (try dsimp only at hSw)
                go_simp
                try with_reducible rfl
              try simp only [Act.put, List.getElem_toArray, List.getElem_cons_zero, List.getElem_cons_succ, List.setIfInBounds_toArray, List.set_cons_zero, List.set_cons_succ]
              refine wpAnyH_take (i := 7) (oi := _) (v := ?_) rfl (by kernel_rfl) (by kernel_rfl) (by kernel_rfl) (fun _ _ _ h => h) (Or.inl ⟨by rfl, ?_⟩) (by assumption) ?_
              rotate_left
              · intro w hSw
                (try dsimp only at hSw)
                go_simp
                try with_reducible rfl
              try simp only [Act.put, List.getElem_toArray, List.getElem_cons_zero, List.getElem_cons_succ, List.setIfInBounds_toArray, List.set_cons_zero, List.set_cons_succ]
              refine wpAnyH_take (i := 13) (oi := _) (v := ?_) rfl (by kernel_rfl) (by kernel_rfl) (by kernel_rfl) (fun _ _ _ h => h) (Or.inl ⟨by rfl, ?_⟩) (by assumption) ?_
              rotate_left
              · intro w hSw
                (try dsimp only at hSw)
                go_simp
                try with_reducible rfl
              try simp only [Act.put, List.getElem_toArray, List.getElem_cons_zero, List.getElem_cons_succ, List.setIfInBounds_toArray, List.set_cons_zero, List.set_cons_succ]
              refine wpAnyH_take (i := 16) (oi := _) (v := ?_) rfl (by kernel_rfl) (by kernel_rfl) (by kernel_rfl) (fun _ _ _ h => h) (Or.inl ⟨by rfl, ?_⟩) (by assumption) ?_
              rotate_left
              · intro w hSw
                (try dsimp only at hSw)
                go_simp
                try with_reducible rfl
              try simp only [Act.put, List.getElem_toArray, List.getElem_cons_zero, List.getElem_cons_succ, List.setIfInBounds_toArray, List.set_cons_zero, List.set_cons_succ]
              refine wpAnyH_take (i := 23) (oi := _) (v := ?_) rfl (by kernel_rfl) (by kernel_rfl) (by kernel_rfl) (fun _ _ _ h => h) (Or.inl ⟨by rfl, ?_⟩) (by assumption) ?_
              rotate_left
              · intro w hSw
                (try dsimp only at hSw)
                go_simp
                try with_reducible rfl
              try simp only [Act.put, List.getElem_toArray, List.getElem_cons_zero, List.getElem_cons_succ, List.setIfInBounds_toArray, List.set_cons_zero, List.set_cons_succ]
              refine wpAnyH_take (i := 8) (oi := _) (v := ?_) rfl (by kernel_rfl) (by kernel_rfl) (by kernel_rfl) (fun _ _ _ h => h) (Or.inl ⟨by rfl, ?_⟩) (by assumption) ?_
              rotate_left
              · intro w hSw
                (try dsimp only at hSw)
                go_simp
                try with_reducible rfl
              try simp only [Act.put, List.getElem_toArray, List.getElem_cons_zero, List.getElem_cons_succ, List.setIfInBounds_toArray, List.set_cons_zero, List.set_cons_succ]
              refine wpAnyH_take (i := 17) (oi := _) (v := ?_) rfl (by kernel_rfl) (by kernel_rfl) (by kernel_rfl) (fun _ _ _ h => h) (Or.inl ⟨by rfl, ?_⟩) (by assumption) ?_
              rotate_left
              · intro w hSw
                (try dsimp only at hSw)
                go_simp
                try with_reducible rfl
              try simp only [Act.put, List.getElem_toArray, List.getElem_cons_zero, List.getElem_cons_succ, List.setIfInBounds_toArray, List.set_cons_zero, List.set_cons_succ]
              refine wpAnyH_take (i := 24) (oi := _) (v := ?_) rfl (by kernel_rfl) (by kernel_rfl) (by kernel_rfl) (fun _ _ _ h => h) (Or.inl ⟨by rfl, ?_⟩) (by assumption) ?_
              rotate_left
              · intro w hSw
                (try dsimp only at hSw)
                go_simp
                try with_reducible rfl
              try simp only [Act.put, List.getElem_toArray, List.getElem_cons_zero, List.getElem_cons_succ, List.setIfInBounds_toArray, List.set_cons_zero, List.set_cons_succ]
              refine wpAnyH_take (i := 9) (oi := _) (v := ?_) rfl (by kernel_rfl) (by kernel_rfl) (by kernel_rfl) (fun _ _ _ h => h) (Or.inl ⟨by rfl, ?_⟩) (by assumption) ?_
              rotate_left
              · intro w hSw
                (try dsimp only at hSw)
                go_simp
                try with_reducible rfl
              try simp only [Act.put, List.getElem_toArray, List.getElem_cons_zero, List.getElem_cons_succ, List.setIfInBounds_toArray, List.set_cons_zero, List.set_cons_succ]
              refine wpAnyH_take (i := 18) (oi := _) (v := ?_) rfl (by kernel_rfl) (by kernel_rfl) (by kernel_rfl) (fun _ _ _ h => h) (Or.inl ⟨by rfl, ?_⟩) (by assumption) ?_
              rotate_left
              · intro w hSw
                (try dsimp only at hSw)
                go_simp
                try with_reducible rfl
              try simp only [Act.put, List.getElem_toArray, List.getElem_cons_zero, List.getElem_cons_succ, List.setIfInBounds_toArray, List.set_cons_zero, List.set_cons_succ]
              refine wpAnyH_take (i := 10) (oi := _) (v := ?_) rfl (by kernel_rfl) (by kernel_rfl) (by kernel_rfl) (fun _ _ _ h => h) (Or.inl ⟨by rfl, ?_⟩) (by assumption) ?_
              rotate_left
              · intro w hSw
                (try dsimp only at hSw)
                go_simp
                try with_reducible rfl
              try simp only [Act.put, List.getElem_toArray, List.getElem_cons_zero, List.getElem_cons_succ, List.setIfInBounds_toArray, List.set_cons_zero, List.set_cons_succ]
              refine wpAnyH_take (i := 19) (oi := _) (v := ?_) rfl (by kernel_rfl) (by kernel_rfl) (by kernel_rfl) (fun _ _ _ h => h) (Or.inl ⟨by rfl, ?_⟩) (by assumption) ?_
              rotate_left
              · intro w hSw
                (try dsimp only at hSw)
                go_simp
                try with_reducible rfl
              try simp only [Act.put, List.getElem_toArray, List.getElem_cons_zero, List.getElem_cons_succ, List.setIfInBounds_toArray, List.set_cons_zero, List.set_cons_succ]
              refine wpAnyH_ready (rs := [1, 25]) (by kernel_rfl) (by simp) ?_
              refine AllReadyH.cons (o := _) rfl (fun K hK => ?_) (AllReadyH.cons (o := _) rfl (fun K hK => ?_) AllReadyH.nil)
              · have hcb := HB1.out wr (belR _)
                go_simp
                clear hcb
                refine hK.out _ _ (show World.cell? _ _ = _ ∧ World.cell? _ _ = _ ∧ World.cell? _ _ = _ ∧ World.cell? _ _ = _ from HCL.out _ (belT Bw (by iterate 8 try (first | assumption | exact belR _ | apply belDr | apply belAlloc)))) (fun hHeld => ?_)
                clear hK K
                try simp only [Act.put, List.getElem_toArray, List.getElem_cons_zero, List.getElem_cons_succ, List.setIfInBounds_toArray, List.set_cons_zero, List.set_cons_succ]
                refine wpAnyH_ready (rs := [25]) (by kernel_rfl) (by simp) ?_
                refine AllReadyH.cons (o := _) rfl (fun K hK => ?_) AllReadyH.nil
                go_simp
                refine Calls.mono (clone_any _ pj _ (HYJ.out.up (belT Bw (by iterate 8 try (first | assumption | exact belR _ | apply belDr | apply belAlloc)))) (by rw [HJ32.out]; decide)) ?_
                rintro e w8 ⟨sv, rfl, OS, bS⟩
                have B8 : Below wr.heap.size wr w8 := belT (by iterate 8 try (first | assumption | exact belR _ | apply belDr | apply belAlloc)) bS
                obtain ⟨gS, cS, rfl, hgS, _⟩ := own_shape (n := 32) (by have := OS.2; rwa [HJ32.out] at this) (by decide)
                have hgW : wr.heap.size ≤ gS := by refine Nat.le_trans ?_ hgS; exact ((by iterate 8 try (first | assumption | exact belR _ | apply belDr | apply belAlloc)) : Below wr.heap.size wr _).size
                try go_simp
                refine hK.out _ _ (show World.cell? _ _ = _ ∧ World.cell? _ _ = _ ∧ World.cell? _ _ = _ ∧ World.cell? _ _ = _ from HCL.out _ (belT Bw (by iterate 8 try (first | assumption | exact belR _ | apply belDr | apply belAlloc)))) (fun hHeld => ?_)
                clear hK K
                try simp only [Act.put, List.getElem_toArray, List.getElem_cons_zero, List.getElem_cons_succ, List.setIfInBounds_toArray, List.set_cons_zero, List.set_cons_succ]
                refine wpAnyH_take (i := 26) (oi := _) (v := ?_) rfl (by kernel_rfl) (by kernel_rfl) (by kernel_rfl) (fun _ _ _ h => h) (Or.inl ⟨by rfl, ?_⟩) (by assumption) ?_
                rotate_left
                · intro w hSw
                  (try dsimp only at hSw)
                  go_simp
                  try with_reducible rfl
                try simp only [Act.put, List.getElem_toArray, List.getElem_cons_zero, List.getElem_cons_succ, List.setIfInBounds_toArray, List.set_cons_zero, List.set_cons_succ]
                refine wpAnyH_ready (rs := [27]) (by kernel_rfl) (by simp) ?_
                refine AllReadyH.cons (o := _) rfl (fun K hK => ?_) AllReadyH.nil
                go_simp
                refine hK.out _ _ (show World.cell? _ _ = _ ∧ World.cell? _ _ = _ ∧ World.cell? _ _ = _ ∧ World.cell? _ _ = _ from HCL.out _ (belT Bw (by iterate 8 try (first | assumption | exact belR _ | apply belDr | apply belAlloc)))) (fun hHeld => ?_)
                clear hK K
                try simp only [Act.put, List.getElem_toArray, List.getElem_cons_zero, List.getElem_cons_succ, List.setIfInBounds_toArray, List.set_cons_zero, List.set_cons_succ]
                refine wpAnyH_ready (rs := [28]) (by kernel_rfl) (by simp) ?_
                refine AllReadyH.cons (o := _) rfl (fun K hK => ?_) AllReadyH.nil
                rw [if_pos (by rfl)]
                have hRS := HR.out.below B8
                refine wp_append_items _ _ 57 56 rfl i0 _ Try.underlying57 hi hz0 hz1 hz2 rfl (w.heap.size + 2) v T rfl (hRS.own.up (belA1 (belR _))) _ 1 1 [((⟨((d1 : Nat) : Int), ((d2 : Nat) : Int), pj⟩ : RI), Value.slice (some ⟨gS, 0, none⟩) 32 cS)] rfl rfl (news_one _ ((⟨((d1 : Nat) : Int), ((d2 : Nat) : Int), pj⟩ : RI), Value.slice (some ⟨gS, 0, none⟩) 32 cS) _ _ (by first | rfl | simp)) (fun p hp => by rw [List.mem_singleton.1 hp]; exact ⟨OS.byt.up (belA1 (belR _)), ⟨⟨by dsimp only; omega, by dsimp only; omega⟩, ⟨by dsimp only; omega, by dsimp only; omega⟩⟩, .inr (fun g hg e => by cases hg; have := HR.out.own.lt gS e; omega)⟩) (by have := hTl.out; simp; omega) (by have := hRS.siz; simp; omega) ?_
                intro v9' w9 O9 g9 p9
                have hl9 : (T ++ [((⟨((d1 : Nat) : Int), ((d2 : Nat) : Int), pj⟩ : RI), Value.slice (some ⟨gS, 0, none⟩) 32 cS)]).length = j + 1 := by rw [List.length_append, hTl.out]; rfl
                obtain ⟨a9, c9, e9, _, _, _⟩ := O9.shape
                rw [hl9] at e9
                subst e9
                clear hl9
                have hfar9 : ∀ p ∈ T ++ [((⟨((d1 : Nat) : Int), ((d2 : Nat) : Int), pj⟩ : RI), Value.slice (some ⟨gS, 0, none⟩) 32 cS)], p.1.b.length = 32 ∧ ∀ g, p.2.ownBlock = some g → w.heap.size + 2 ≤ g := by
                  intro p hp
                  rcases List.mem_append.1 hp with h | h
                  · exact HR.out.far p h
                  · rw [List.mem_singleton.1 h]; exact ⟨HJ32.out, fun g hg => by cases hg; show w.heap.size + 2 ≤ gS; have := HR.out.siz; omega⟩
                obtain ⟨hbx, hRS9⟩ := (hRS.below (belA1 (belR _))).row g9 O9 hfar9
                have B9 : Below w.heap.size w w9 := belG (belT Bw (belA1 B8)) g9 (fun g hg => by have := HR.out.own.ge g hg; omega)
                refine hK.out _ _ (show World.cell? _ _ = _ ∧ World.cell? _ _ = _ ∧ World.cell? _ _ = _ ∧ World.cell? _ _ = _ from HCL.out _ B9) (fun hHeld => ?_)
                clear hK K
                try simp only [Act.put, List.getElem_toArray, List.getElem_cons_zero, List.getElem_cons_succ, List.setIfInBounds_toArray, List.set_cons_zero, List.set_cons_succ]
                refine wpAnyH_take (i := 29) (oi := _) (v := ?_) rfl (by kernel_rfl) (by kernel_rfl) (by kernel_rfl) (fun _ _ _ h => h) (Or.inl ⟨by rfl, ?_⟩) (by assumption) ?_
                rotate_left
                · intro w hSw
                  (try dsimp only at hSw)
                  go_simp
                  try with_reducible rfl
                try simp only [Act.put, List.getElem_toArray, List.getElem_cons_zero, List.getElem_cons_succ, List.setIfInBounds_toArray, List.set_cons_zero, List.set_cons_succ]
                refine wpAnyH_ready (rs := [30]) (by kernel_rfl) (by simp) ?_
                refine AllReadyH.cons (o := _) rfl (fun K hK => ?_) AllReadyH.nil
                obtain ⟨⟨d0', d1'⟩, d2', d3'⟩ := hbx.two
                go_simp
                refine hK.out _ _ (show World.cell? _ _ = _ ∧ World.cell? _ _ = _ ∧ World.cell? _ _ = _ ∧ World.cell? _ _ = _ from HCL.out _ hRS9.bel) (fun hHeld => ?_)
                clear hK K
                try simp only [Act.put, List.getElem_toArray, List.getElem_cons_zero, List.getElem_cons_succ, List.setIfInBounds_toArray, List.set_cons_zero, List.set_cons_succ]
                refine wpAnyH_done (by kernel_rfl) ?_ _
                go_wp2
                go_roundw
                case rel => exact ⟨j + 1, _, _, by omega, by go_num, Lib.hid (by rw [List.map_append, hT.out, ritems_succ, HIT.out]; rfl), Lib.hid hRS9⟩
                case measure => simp [intOf]; omega
              · go_simp
                refine Calls.mono (clone_any _ pj _ (HYJ.out.up (belT Bw (by iterate 8 try (first | assumption | exact belR _ | apply belDr | apply belAlloc)))) (by rw [HJ32.out]; decide)) ?_
                rintro e w8 ⟨sv, rfl, OS, bS⟩
                have B8 : Below wr.heap.size wr w8 := belT (by iterate 8 try (first | assumption | exact belR _ | apply belDr | apply belAlloc)) bS
                obtain ⟨gS, cS, rfl, hgS, _⟩ := own_shape (n := 32) (by have := OS.2; rwa [HJ32.out] at this) (by decide)
                have hgW : wr.heap.size ≤ gS := by refine Nat.le_trans ?_ hgS; exact ((by iterate 8 try (first | assumption | exact belR _ | apply belDr | apply belAlloc)) : Below wr.heap.size wr _).size
                try go_simp
                refine hK.out _ _ (show World.cell? _ _ = _ ∧ World.cell? _ _ = _ ∧ World.cell? _ _ = _ ∧ World.cell? _ _ = _ from HCL.out _ (belT Bw (by iterate 8 try (first | assumption | exact belR _ | apply belDr | apply belAlloc)))) (fun hHeld => ?_)
                clear hK K
                try simp only [Act.put, List.getElem_toArray, List.getElem_cons_zero, List.getElem_cons_succ, List.setIfInBounds_toArray, List.set_cons_zero, List.set_cons_succ]
                refine wpAnyH_take (i := 26) (oi := _) (v := ?_) rfl (by kernel_rfl) (by kernel_rfl) (by kernel_rfl) (fun _ _ _ h => h) (Or.inl ⟨by rfl, ?_⟩) (by assumption) ?_
                rotate_left
                · intro w hSw
                  (try dsimp only at hSw)
                  go_simp
                  try with_reducible rfl
                try simp only [Act.put, List.getElem_toArray, List.getElem_cons_zero, List.getElem_cons_succ, List.setIfInBounds_toArray, List.set_cons_zero, List.set_cons_succ]
                refine wpAnyH_ready (rs := [1, 27]) (by kernel_rfl) (by simp) ?_
                refine AllReadyH.cons (o := _) rfl (fun K hK => ?_) (AllReadyH.cons (o := _) rfl (fun K hK => ?_) AllReadyH.nil)
                · have hcb := HB1.out wr (belR _)
                  have hcs := HB1.out w8 B8
                  go_simp
                  clear hcb hcs
                  refine hK.out _ _ (show World.cell? _ _ = _ ∧ World.cell? _ _ = _ ∧ World.cell? _ _ = _ ∧ World.cell? _ _ = _ from HCL.out _ (belT Bw (by iterate 8 try (first | assumption | exact belR _ | apply belDr | apply belAlloc)))) (fun hHeld => ?_)
                  clear hK K
                  try simp only [Act.put, List.getElem_toArray, List.getElem_cons_zero, List.getElem_cons_succ, List.setIfInBounds_toArray, List.set_cons_zero, List.set_cons_succ]
                  refine wpAnyH_ready (rs := [27]) (by kernel_rfl) (by simp) ?_
                  refine AllReadyH.cons (o := _) rfl (fun K hK => ?_) AllReadyH.nil
                  go_simp
                  refine hK.out _ _ (show World.cell? _ _ = _ ∧ World.cell? _ _ = _ ∧ World.cell? _ _ = _ ∧ World.cell? _ _ = _ from HCL.out _ (belT Bw (by iterate 8 try (first | assumption | exact belR _ | apply belDr | apply belAlloc)))) (fun hHeld => ?_)
                  clear hK K
                  try simp only [Act.put, List.getElem_toArray, List.getElem_cons_zero, List.getElem_cons_succ, List.setIfInBounds_toArray, List.set_cons_zero, List.set_cons_succ]
                  refine wpAnyH_ready (rs := [28]) (by kernel_rfl) (by simp) ?_
                  refine AllReadyH.cons (o := _) rfl (fun K hK => ?_) AllReadyH.nil
                  rw [if_pos (by rfl)]
                  have hRS := HR.out.below B8
                  refine wp_append_items _ _ 57 56 rfl i0 _ Try.underlying57 hi hz0 hz1 hz2 rfl (w.heap.size + 2) v T rfl (hRS.own.up (belA1 (belR _))) _ 1 1 [((⟨((d1 : Nat) : Int), ((d2 : Nat) : Int), pj⟩ : RI), Value.slice (some ⟨gS, 0, none⟩) 32 cS)] rfl rfl (news_one _ ((⟨((d1 : Nat) : Int), ((d2 : Nat) : Int), pj⟩ : RI), Value.slice (some ⟨gS, 0, none⟩) 32 cS) _ _ (by first | rfl | simp)) (fun p hp => by rw [List.mem_singleton.1 hp]; exact ⟨OS.byt.up (belA1 (belR _)), ⟨⟨by dsimp only; omega, by dsimp only; omega⟩, ⟨by dsimp only; omega, by dsimp only; omega⟩⟩, .inr (fun g hg e => by cases hg; have := HR.out.own.lt gS e; omega)⟩) (by have := hTl.out; simp; omega) (by have := hRS.siz; simp; omega) ?_
                  intro v9' w9 O9 g9 p9
                  have hl9 : (T ++ [((⟨((d1 : Nat) : Int), ((d2 : Nat) : Int), pj⟩ : RI), Value.slice (some ⟨gS, 0, none⟩) 32 cS)]).length = j + 1 := by rw [List.length_append, hTl.out]; rfl
                  obtain ⟨a9, c9, e9, _, _, _⟩ := O9.shape
                  rw [hl9] at e9
                  subst e9
                  clear hl9
                  have hfar9 : ∀ p ∈ T ++ [((⟨((d1 : Nat) : Int), ((d2 : Nat) : Int), pj⟩ : RI), Value.slice (some ⟨gS, 0, none⟩) 32 cS)], p.1.b.length = 32 ∧ ∀ g, p.2.ownBlock = some g → w.heap.size + 2 ≤ g := by
                    intro p hp
                    rcases List.mem_append.1 hp with h | h
                    · exact HR.out.far p h
                    · rw [List.mem_singleton.1 h]; exact ⟨HJ32.out, fun g hg => by cases hg; show w.heap.size + 2 ≤ gS; have := HR.out.siz; omega⟩
                  obtain ⟨hbx, hRS9⟩ := (hRS.below (belA1 (belR _))).row g9 O9 hfar9
                  have B9 : Below w.heap.size w w9 := belG (belT Bw (belA1 B8)) g9 (fun g hg => by have := HR.out.own.ge g hg; omega)
                  refine hK.out _ _ (show World.cell? _ _ = _ ∧ World.cell? _ _ = _ ∧ World.cell? _ _ = _ ∧ World.cell? _ _ = _ from HCL.out _ B9) (fun hHeld => ?_)
                  clear hK K
                  try simp only [Act.put, List.getElem_toArray, List.getElem_cons_zero, List.getElem_cons_succ, List.setIfInBounds_toArray, List.set_cons_zero, List.set_cons_succ]
                  refine wpAnyH_take (i := 29) (oi := _) (v := ?_) rfl (by kernel_rfl) (by kernel_rfl) (by kernel_rfl) (fun _ _ _ h => h) (Or.inl ⟨by rfl, ?_⟩) (by assumption) ?_
                  rotate_left
                  · intro w hSw
                    (try dsimp only at hSw)
                    go_simp
                    try with_reducible rfl
                  try simp only [Act.put, List.getElem_toArray, List.getElem_cons_zero, List.getElem_cons_succ, List.setIfInBounds_toArray, List.set_cons_zero, List.set_cons_succ]
                  refine wpAnyH_ready (rs := [30]) (by kernel_rfl) (by simp) ?_
                  refine AllReadyH.cons (o := _) rfl (fun K hK => ?_) AllReadyH.nil
                  obtain ⟨⟨d0', d1'⟩, d2', d3'⟩ := hbx.two
                  go_simp
                  refine hK.out _ _ (show World.cell? _ _ = _ ∧ World.cell? _ _ = _ ∧ World.cell? _ _ = _ ∧ World.cell? _ _ = _ from HCL.out _ hRS9.bel) (fun hHeld => ?_)
                  clear hK K
                  try simp only [Act.put, List.getElem_toArray, List.getElem_cons_zero, List.getElem_cons_succ, List.setIfInBounds_toArray, List.set_cons_zero, List.set_cons_succ]
                  refine wpAnyH_done (by kernel_rfl) ?_ _
                  go_wp2
                  go_roundw
                  case rel => exact ⟨j + 1, _, _, by omega, by go_num, Lib.hid (by rw [List.map_append, hT.out, ritems_succ, HIT.out]; rfl), Lib.hid hRS9⟩
                  case measure => simp [intOf]; omega
                · go_simp
                  refine hK.out _ _ (show World.cell? _ _ = _ ∧ World.cell? _ _ = _ ∧ World.cell? _ _ = _ ∧ World.cell? _ _ = _ from HCL.out _ (belT Bw (by iterate 8 try (first | assumption | exact belR _ | apply belDr | apply belAlloc)))) (fun hHeld => ?_)
                  clear hK K
                  try simp only [Act.put, List.getElem_toArray, List.getElem_cons_zero, List.getElem_cons_succ, List.setIfInBounds_toArray, List.set_cons_zero, List.set_cons_succ]
                  refine wpAnyH_ready (rs := [1]) (by kernel_rfl) (by simp) ?_
                  refine AllReadyH.cons (o := _) rfl (fun K hK => ?_) AllReadyH.nil
                  have hcb := HB1.out wr (belR _)
                  have hcs := HB1.out w8 B8
                  have hca := fun o => Lib.cell?_alloc_marked o hcs
                  go_simp
                  clear hcb hcs hca
                  refine hK.out _ _ (show World.cell? _ _ = _ ∧ World.cell? _ _ = _ ∧ World.cell? _ _ = _ ∧ World.cell? _ _ = _ from HCL.out _ (belT Bw (by iterate 8 try (first | assumption | exact belR _ | apply belDr | apply belAlloc)))) (fun hHeld => ?_)
                  clear hK K
                  try simp only [Act.put, List.getElem_toArray, List.getElem_cons_zero, List.getElem_cons_succ, List.setIfInBounds_toArray, List.set_cons_zero, List.set_cons_succ]
                  refine wpAnyH_ready (rs := [28]) (by kernel_rfl) (by simp) ?_
                  refine AllReadyH.cons (o := _) rfl (fun K hK => ?_) AllReadyH.nil
                  rw [if_pos (by rfl)]
                  have hRS := HR.out.below B8
                  refine wp_append_items _ _ 57 56 rfl i0 _ Try.underlying57 hi hz0 hz1 hz2 rfl (w.heap.size + 2) v T rfl (hRS.own.up (belA1 (belR _))) _ 1 1 [((⟨((d1 : Nat) : Int), ((d2 : Nat) : Int), pj⟩ : RI), Value.slice (some ⟨gS, 0, none⟩) 32 cS)] rfl rfl (news_one _ ((⟨((d1 : Nat) : Int), ((d2 : Nat) : Int), pj⟩ : RI), Value.slice (some ⟨gS, 0, none⟩) 32 cS) _ _ (by first | rfl | simp)) (fun p hp => by rw [List.mem_singleton.1 hp]; exact ⟨OS.byt.up (belA1 (belR _)), ⟨⟨by dsimp only; omega, by dsimp only; omega⟩, ⟨by dsimp only; omega, by dsimp only; omega⟩⟩, .inr (fun g hg e => by cases hg; have := HR.out.own.lt gS e; omega)⟩) (by have := hTl.out; simp; omega) (by have := hRS.siz; simp; omega) ?_
                  intro v9' w9 O9 g9 p9
                  have hl9 : (T ++ [((⟨((d1 : Nat) : Int), ((d2 : Nat) : Int), pj⟩ : RI), Value.slice (some ⟨gS, 0, none⟩) 32 cS)]).length = j + 1 := by rw [List.length_append, hTl.out]; rfl
                  obtain ⟨a9, c9, e9, _, _, _⟩ := O9.shape
                  rw [hl9] at e9
                  subst e9
                  clear hl9
                  have hfar9 : ∀ p ∈ T ++ [((⟨((d1 : Nat) : Int), ((d2 : Nat) : Int), pj⟩ : RI), Value.slice (some ⟨gS, 0, none⟩) 32 cS)], p.1.b.length = 32 ∧ ∀ g, p.2.ownBlock = some g → w.heap.size + 2 ≤ g := by
                    intro p hp
                    rcases List.mem_append.1 hp with h | h
                    · exact HR.out.far p h
                    · rw [List.mem_singleton.1 h]; exact ⟨HJ32.out, fun g hg => by cases hg; show w.heap.size + 2 ≤ gS; have := HR.out.siz; omega⟩
                  obtain ⟨hbx, hRS9⟩ := (hRS.below (belA1 (belR _))).row g9 O9 hfar9
                  have B9 : Below w.heap.size w w9 := belG (belT Bw (belA1 B8)) g9 (fun g hg => by have := HR.out.own.ge g hg; omega)
                  refine hK.out _ _ (show World.cell? _ _ = _ ∧ World.cell? _ _ = _ ∧ World.cell? _ _ = _ ∧ World.cell? _ _ = _ from HCL.out _ B9) (fun hHeld => ?_)
                  clear hK K
                  try simp only [Act.put, List.getElem_toArray, List.getElem_cons_zero, List.getElem_cons_succ, List.setIfInBounds_toArray, List.set_cons_zero, List.set_cons_succ]
                  refine wpAnyH_take (i := 29) (oi := _) (v := ?_) rfl (by kernel_rfl) (by kernel_rfl) (by kernel_rfl) (fun _ _ _ h => h) (Or.inl ⟨by rfl, ?_⟩) (by assumption) ?_
                  rotate_left
                  · intro w hSw
                    (try dsimp only at hSw)
                    go_simp
                    try with_reducible rfl
                  try simp only [Act.put, List.getElem_toArray, List.getElem_cons_zero, List.getElem_cons_succ, List.setIfInBounds_toArray, List.set_cons_zero, List.set_cons_succ]
                  refine wpAnyH_ready (rs := [30]) (by kernel_rfl) (by simp) ?_
                  refine AllReadyH.cons (o := _) rfl (fun K hK => ?_) AllReadyH.nil
                  obtain ⟨⟨d0', d1'⟩, d2', d3'⟩ := hbx.two
                  go_simp
                  refine hK.out _ _ (show World.cell? _ _ = _ ∧ World.cell? _ _ = _ ∧ World.cell? _ _ = _ ∧ World.cell? _ _ = _ from HCL.out _ hRS9.bel) (fun hHeld => ?_)
                  clear hK K
                  try simp only [Act.put, List.getElem_toArray, List.getElem_cons_zero, List.getElem_cons_succ, List.setIfInBounds_toArray, List.set_cons_zero, List.set_cons_succ]
                  refine wpAnyH_done (by kernel_rfl) ?_ _
                  go_wp2
                  go_roundw
                  case rel => exact ⟨j + 1, _, _, by omega, by go_num, Lib.hid (by rw [List.map_append, hT.out, ritems_succ, HIT.out]; rfl), Lib.hid hRS9⟩
                  case measure => simp [intOf]; omega
            · have hjcn : j = cn := by omega
              have HLR : Hid (T.map Prod.fst = rlist ls) := by show _ = _; rw [hT.out, HCN.out, hjcn]
              obtain ⟨av, cv, rfl, _, _, _⟩ := HR.out.own.shape
              obtain ⟨tn, htn⟩ : ∃ tn, tn = T.length := ⟨_, rfl⟩
              rw [← htn] at HR
              have HI := Lib.hid HR.out.own.items
              rw [HLR.out] at HI
              obtain ⟨⟨x0, x1⟩, x2, x3⟩ := HR.out.box.two
              have hnb : i64b ((num m : Nat) : Int) := by have := HXM.out; unfold i64b; omega
              have HNB := Lib.hid hnb
              have hjB : decide ((j : Int) < (cn : Int)) = false := by rw [decide_eq_false_iff_not]; omega
              have hjP : ((j : Int) < (cn : Int)) = False := by rw [eq_iff_iff]; exact ⟨fun h => by omega, fun h => h.elim⟩
              clear hjc hjcn htn hnb
              cases hok : rok (rnum ls) (rlist ls) with
              | false =>
                have HNO : Hid (ris ls = false) := by show _ = _; unfold ris; rw [hok, Bool.and_false, Bool.false_and]
                have hc := rencode_no (rnum ls) _ (rlist ls) wr (by rw [HSQ.out]; exact HNB.out) HI.out hok
                rw [HSQ.out] at hc
                have HC := Lib.hid hc
                clear hc hok
                go_wp2_with fail
                refine Calls.mono HC.out ?_
                rintro e w6 ⟨rfl, b6⟩
                have B6 := belT Bw b6
                have XR6 := HR.out.res.fr (Fr.of_below (S := fun _ => False) b6) id
                obtain ⟨⟨r0, r1⟩, r2, r3⟩ := XR6.two
                clear x0 x1 x2 x3
                go_wp2_with fail
                obtain ⟨⟨f0, f1⟩, _, _⟩ := ((XR6.set 0 (.int .i64 0)).set 1 (.slice none 0 0)).two
                exact bodyPost_ret (v := .tuple #[.agg #[.int .i64 0, .slice none 0 0], .int .i64 2]) (by simp [results, Try.results70, go_sem, f0, f1]) rfl (dec_none HNO.out ((B6.setCell (Nat.le_refl _) _).setCell (Nat.le_refl _) _))
              | true =>
                have hc := rencode_ok (rnum ls) _ (rlist ls) wr HI.out hok
                have HOK := Lib.hid hok
                rw [show (Value.agg #[.int .i64 (rnum ls), .slice av tn cv]) = .agg #[.int .i64 ((num m : Nat) : Int), .slice av tn cv] by rw [HSQ.out]] at hc
                have HC := Lib.hid hc
                clear hc hok
                go_wp2_with fail
                refine Calls.mono HC.out ?_
                rintro e w6 ⟨v6, rfl, O6, b6⟩
                have B6 := belT Bw b6
                have XR6 := HR.out.res.fr (Fr.of_below (S := fun _ => False) b6) id
                have XB6 := HR.out.box.fr (Fr.of_below (S := fun _ => False) b6) id
                clear x0 x1 x2 x3
                go_wp2_with fail
                refine Calls.mono (samer_any _ _ _ ls _ O6.parts (HP.out.up B6)) ?_
                obtain ⟨sb, hsb⟩ : ∃ sb, decide (renc (rnum ls) (rlist ls) = ls) = sb := ⟨_, rfl⟩
                rw [hsb]
                have HIS : Hid (ris ls = sb) := by
                  show _ = _
                  rw [← hsb, Bool.eq_iff_iff, ris_iff, decide_eq_true_iff]
                  exact ⟨fun h => h.2.2, fun h => ⟨(rform_iff ls).1 hform.out, HOK.out, h⟩⟩
                rintro e w7 ⟨rfl, D7⟩
                have B7 := belT B6 (D7.below _)
                have XR7 := XR6.fr (Fr.of_below (S := fun _ => False) (D7.below _)) id
                have XB7 := XB6.fr (Fr.of_below (S := fun _ => False) (D7.below _)) id
                clear hsb O6 XR6 XB6
                obtain ⟨⟨r0, r1⟩, r2, r3⟩ := XR7.two
                obtain ⟨⟨y0, y1⟩, y2, y3⟩ := XB7.two
                cases sb with
                | false =>
                  go_wp2_with fail
                  obtain ⟨⟨f0, f1⟩, _, _⟩ := ((XR7.set 0 (.int .i64 0)).set 1 (.slice none 0 0)).two
                  exact bodyPost_ret (v := .tuple #[.agg #[.int .i64 0, .slice none 0 0], .int .i64 2]) (by simp [results, Try.results70, go_sem, f0, f1]) rfl (dec_none HIS.out ((B7.setCell (Nat.le_refl _) _).setCell (Nat.le_refl _) _))
                | true =>
                  go_wp2_with fail
                  obtain ⟨⟨f0, f1⟩, _, _⟩ := ((XR7.set 0 (.int .i64 ((num m : Nat) : Int))).set 1 (.slice av tn cv)).two
                  have OO0 := ((HR.out.own.up (belT b6 (D7.below _))).fr ((Fr.cell (w := w7) ⟨w.heap.size, 0, none⟩ (.int .i64 ((num m : Nat) : Int))).trans (Fr.cell (w := w7.setCell ⟨w.heap.size, 0, none⟩ (.int .i64 ((num m : Nat) : Int))) ⟨w.heap.size, 1, none⟩ (.slice av tn cv))) (fun g hg e => by have := HR.out.own.ge g hg; simp at e; omega) (fun p hp g hg e => by have := (HR.out.far p hp).2 g hg; simp at e; omega))
                  have OO : ItemsF _ w.heap.size (.slice av tn cv) (rlist ls) := ⟨T, HLR.out.symm, OO0.low (by omega), fun p hp g hg => by have := (HR.out.far p hp).2 g hg; omega⟩
                  exact bodyPost_ret (v := .tuple #[.agg #[.int .i64 ((num m : Nat) : Int), .slice av tn cv], .int .i64 0]) (by simp [results, Try.results70, go_sem, f0, f1]) rfl ⟨_, _, _, _, rfl, OO, HNB.out, (B7.setCell (Nat.le_refl _) _).setCell (Nat.le_refl _) _, .inl ⟨HIS.out, rfl, HSQ.out.symm, rfl⟩⟩
  · have hno : Hid (ris ls = false) := ris_form (by rw [Bool.eq_false_iff]; intro e; exact h4 (by rw [HN.out]; exact ((rform_iff ls).1 e).1))
    have hb4 : ((n : Int) != 4) = true := by rw [bne_iff_ne]; omega
    clear h4
    go_enter Try.func70, Try.ntmps70
    go_wp2_with fail
    exact bodyPost_ret (v := .tuple #[.agg #[.int .i64 0, .slice none 0 0], .int .i64 2]) (by simp [results, Try.results70, go_sem]) rfl (dec_none hno.out (belA1 (belR _)))
end Go.Proofs.Ytenjpldinnbcbaa
