/- The walk of the reference's DecodeRecord. -/
import Derived.Test.YtgnnkglmlopldaaRecD
import Derived.Test.YtgnnkglmlopldaaSupRD
namespace Go.Proofs.Ytgnnkglmlopldaa
open Go.RowKit C
set_option linter.unusedVariables false
set_option linter.unusedSimpArgs false
set_option maxRecDepth 100000
set_option maxHeartbeats 2000000

/-- what the reference answers of sectors -/
def RefP (ls : List (List Nat)) (w : World) (e : Ending) (w' : World) : Prop :=
  ∃ (s : Int) (v : Value) (l : List RI) (ok : Bool), e = .returned (.tuple #[.int .i64 s, v, .bool ok]) ∧ Items w' v l ∧ i64b s ∧ Below w.heap.size w w' ∧ ((ris ls = true ∧ ok = true ∧ s = rnum ls ∧ l = rlist ls) ∨ (ris ls = false ∧ ok = false ∧ s = 0 ∧ l = []))
theorem ref_none {ls : List (List Nat)} {w w' : World} (h : ris ls = false) (hb : Below w.heap.size w w') : RefP ls w (.returned (.tuple #[.int .i64 0, .slice none 0 0, .bool false])) w' :=
  ⟨0, .slice none 0 0, [], false, rfl, Items.nil _, ⟨by decide, by decide⟩, hb, .inr ⟨h, rfl, rfl, rfl⟩⟩
theorem ris_count {ls : List (List Nat)} {p : List Nat} {c : Nat} (hp : ls[0]? = some p) (hc : p[8]? = some c) (h : ris ls = true) : c ≤ 3 := by
  obtain ⟨_, h2, h3⟩ := (ris_iff ls).1 h
  have hl := ((rok_iff _ _).1 h2).2.1
  have e : ls.getD 0 [] = p := by rw [List.getD_eq_getElem?_getD, hp]; rfl
  have e2 : (renc (rnum ls) (rlist ls)).getD 0 [] = p := by rw [h3, e]
  have e3 : p.getD 8 0 = c := by rw [List.getD_eq_getElem?_getD, hc]; rfl
  have e4 : (sealed (rfull (rnum ls) (rlist ls)) (rrows (rlist ls))).getD 8 0 = c := by rw [← e3, ← e2]; rfl
  rw [sealed_getDL _ (rfull_len _ hl) (by decide), rfull_hd _ _ (by decide)] at e4
  have : (rlist ls).length % 256 = c := e4
  omega
theorem ris_any {ls : List (List Nat)} {b : List Nat} (hb : b ∈ ls) (h : b.length ≠ 32) : ris ls = false :=
  ris_form (by rw [Bool.eq_false_iff]; intro e; exact h (((rform_iff ls).1 e).2 b hb))
theorem refdec_any (v : Value) (ls : List (List Nat)) (w : World) (h : Parts w v ls) :
    Calls Try.prog 34 #[v] w (RefP ls w) := by
  obtain ⟨j0, hj, hy0, hy1, hy2⟩ := info_parts uint8_info
  obtain ⟨i0, hi, hz0, hz1, hz2⟩ := info_parts refitem_info
  have HP := Lib.hid h
  obtain ⟨ao, cap, rfl, hc1, hc2⟩ := h.shape
  obtain ⟨n, hn⟩ : ∃ n, n = ls.length := ⟨_, rfl⟩
  have HN := Lib.hid hn
  rw [← hn] at HP hc1 ⊢
  clear h hn
  by_cases h4 : n = 4
  · subst h4
    go_enter Try.func34, Try.ntmps34
    go_wp2
    go_loopw [19] (fun i W => ∃ k : Nat, k ≤ 4 ∧ i = .int .i64 k ∧ Hid (∀ j b, j < k → ls[j]? = some b → b.length = 32) ∧ Below w.heap.size w W) (fun i _ => 4 - (intOf i).toNat)
    case atStart => exact ⟨0, by decide, rfl, Lib.hid (fun j b hj => by omega), belR _⟩
    case round =>
      obtain ⟨k, hk, rfl, hall, B⟩ := hrel
      by_cases hlt : k < 4
      · obtain ⟨b, off, c, p, rfl, hcc, hp, hy⟩ := (HP.out.up B).get (k := k) (by rw [← HN.out]; exact hlt)
        obtain ⟨ac, cc, rfl, hk1, hk2⟩ := hy.shape
        obtain ⟨pn, hpn⟩ : ∃ pn, pn = p.length := ⟨_, rfl⟩
        rw [← hpn] at hcc hk1
        have HPN := Lib.hid hpn
        have hlti : (k : Int) < 4 := by omega
        clear hpn hy
        by_cases h32 : pn = 32
        · have hbb : ((pn : Int) != 32) = false := by rw [bne_eq_false_iff_eq]; omega
          have HXX : Hid (p.length = 32) := by show _ = _; rw [← HPN.out, h32]
          clear h32
          go_wp2
          go_roundw
          case rel =>
            refine ⟨k + 1, by omega, by go_num, Lib.hid (fun j b hj hb => ?_), B⟩
            by_cases hjk : j = k
            · subst hjk; rw [hp.out] at hb; cases hb; exact HXX.out
            · exact hall.out j b (by omega) hb
          case measure => simp [intOf]; omega
        · have hbb : ((pn : Int) != 32) = true := by rw [bne_iff_ne]; omega
          have HNO : Hid (ris ls = false) := ris_any (List.mem_of_getElem? hp.out) (by rw [← HPN.out]; exact h32)
          clear h32
          go_wp2
          go_ret3
          exact ref_none HNO.out B
      · have h32 : Hid (∀ b ∈ ls, b.length = 32) := fun b hb => by
          obtain ⟨j, hj, rfl⟩ := List.getElem_of_mem hb
          exact hall.out j _ (by rw [← HN.out] at hj; omega) (List.getElem?_eq_getElem hj)
        have hjB : decide ((k : Int) < 4) = false := by rw [decide_eq_false_iff_not]; omega
        have hjP : ((k : Int) < 4) = False := by rw [eq_iff_iff]; exact ⟨fun h => by omega, fun h => h.elim⟩
        have hform : Hid (rform ls = true) := (rform_iff ls).2 ⟨HN.out.symm, h32.out⟩
        obtain ⟨rb, ro, c0, p0, rfl, hc0, hp0, hy0'⟩ := HP.out.get (k := 0) (by rw [← HN.out]; decide)
        have h032 := h32.out p0 (List.mem_of_getElem? hp0.out)
        obtain ⟨a0, k0, rfl, hk1, hk2⟩ := hy0'.shapeN h032
        obtain ⟨b0, o0, _, rfl, _⟩ := hy0'.get (k := 0) (by decide)
        rw [Nat.add_zero] at hc0
        have HC0 : Hid (∀ X, Below w.heap.size w X → X.cell? ⟨rb, ro, none⟩ = some (.slice (some ⟨b0, o0, none⟩) 32 k0)) := fun X hX => cell_fr hc0 (Fr.of_below (S := fun _ => False) hX) id
        have HY0 := Lib.hid hy0'
        obtain ⟨b', off', c8, e, hc8, hck8, hc88⟩ := (HY0.out.up B).get (k := 8) (by decide)
        simp only [Option.some.injEq, Addr.mk.injEq] at e
        obtain ⟨rfl, rfl, _⟩ := e
        have cr := HC0.out _ B
        clear hlt hall hc0 hy0'
        by_cases hc3 : c8 ≤ 3
        · have h3B : decide ((3 : Int) < (c8 : Int)) = false := by rw [decide_eq_false_iff_not]; omega
          have h3P : ((3 : Int) < (c8 : Int)) = False := by rw [eq_iff_iff]; exact ⟨fun h => by omega, fun h => h.elim⟩
          have HCN : Hid (rlist ls = ritems ls c8) := by
            show _ = _
            unfold rlist rcount
            rw [show ls.getD 0 [] = p0 by rw [List.getD_eq_getElem?_getD, hp0.out]; rfl, show p0.getD 8 0 = c8 by rw [List.getD_eq_getElem?_getD, hck8.out]; rfl]
            rw [show Nat.min c8 3 = c8 from Nat.min_eq_left hc3]
          have HC3 := Lib.hid hc3
          clear hc3
          obtain ⟨wE, hwE⟩ : ∃ wE, wE = wr := ⟨_, rfl⟩
          have HWE := Lib.hid hwE
          have BE : Below w.heap.size w wE := by rw [hwE]; exact B
          clear hwE
          go_wp2_with fail
          clear cr hc8
          go_loopw [9, 10] (fun a i W => ∃ (j : Nat) (T : List (RI × Value)), j ≤ c8 ∧ i = .int .i64 j ∧ Hid (T.map Prod.fst = ritems ls j) ∧ OwnI 75 W wE.heap.size a T ∧ Below wE.heap.size wE W) (fun _ i _ => c8 - (intOf i).toNat)
          case atStart => exact ⟨0, [], by omega, rfl, Lib.hid rfl, OwnI.nil _ _ _, by rw [HWE.out]; exact belR _⟩
          case round =>
            clear B h3B h3P hjB hjP
            obtain ⟨j, T, hj', rfl, hT, O, BR⟩ := hrel
            have Bw : Below w.heap.size w wr := belT BE BR
            have hj4 : j ≤ 3 := by have := HC3.out; omega
            by_cases hjc : j < c8
            · obtain ⟨rb', ro', cj, pj, he, hcj, hpj, hyj⟩ := HP.out.get (k := 1 + j) (by rw [← HN.out]; have := HC3.out; omega)
              simp only [Option.some.injEq, Addr.mk.injEq] at he
              obtain ⟨rfl, rfl, _⟩ := he
              have hj32 := h32.out pj (List.mem_of_getElem? hpj.out)
              obtain ⟨aj, kj, rfl, _, _⟩ := hyj.shapeN hj32
              obtain ⟨bj, oj, _, rfl, _⟩ := hyj.get (k := 0) (by decide)
              obtain ⟨b1, o1, d1, e1, hd1, hd1k, hd18⟩ := HY0.out.get (k := 9 + 2 * j) (by omega)
              simp only [Option.some.injEq, Addr.mk.injEq] at e1
              obtain ⟨rfl, rfl, _⟩ := e1
              obtain ⟨b2, o2, d2, e2, hd2, hd2k, hd28⟩ := HY0.out.get (k := 10 + 2 * j) (by omega)
              simp only [Option.some.injEq, Addr.mk.injEq] at e2
              obtain ⟨rfl, rfl, _⟩ := e2
              have HIT : Hid (ritem ls j = ⟨(d1 : Nat), (d2 : Nat), pj⟩) := by
                show _ = _
                unfold ritem
                rw [show ls.getD 0 [] = p0 by rw [List.getD_eq_getElem?_getD, hp0.out]; rfl, show ls.getD (1 + j) [] = pj by rw [List.getD_eq_getElem?_getD, hpj.out]; rfl, List.getD_eq_getElem?_getD, hd1k.out, List.getD_eq_getElem?_getD, hd2k.out]
                rfl
              obtain ⟨j9, hj9⟩ : ∃ j9, j9 = 9 + 2 * j := ⟨_, rfl⟩
              obtain ⟨j10, hj10⟩ : ∃ j10, j10 = 10 + 2 * j := ⟨_, rfl⟩
              obtain ⟨j1, hj1⟩ : ∃ j1, j1 = 1 + j := ⟨_, rfl⟩
              rw [← hj9] at hd1
              rw [← hj10] at hd2
              rw [← hj1] at hcj
              have kw2 : IntKind.i64.wrap (2 * (j : Int)) = 2 * (j : Int) := by rw [IntKind.wrap_i64]; omega
              have kw9 : IntKind.i64.wrap (9 + 2 * (j : Int)) = (j9 : Int) := by rw [IntKind.wrap_i64]; omega
              have kw10 : IntKind.i64.wrap (10 + 2 * (j : Int)) = (j10 : Int) := by rw [IntKind.wrap_i64]; omega
              have kw1 : IntKind.i64.wrap (1 + (j : Int)) = (j1 : Int) := by rw [IntKind.wrap_i64]; omega
              have kwd1 : IntKind.i64.wrap (d1 : Int) = (d1 : Int) := by rw [IntKind.wrap_i64]; omega
              have kwd2 : IntKind.i64.wrap (d2 : Int) = (d2 : Int) := by rw [IntKind.wrap_i64]; omega
              have uu9 : (0 : Int) ≤ (j9 : Int) := by omega
              have uu10 : (0 : Int) ≤ (j10 : Int) := by omega
              have uu1 : (0 : Int) ≤ (j1 : Int) := by omega
              have hjl : j < 3 := by have := HC3.out; omega
              have v9 : (j9 : Int) < 32 := by omega
              have v10 : (j10 : Int) < 32 := by omega
              have v1 : (j1 : Int) < 4 := by omega
              have HCL : Hid (∀ X, Below w.heap.size w X → X.cell? ⟨rb, ro, none⟩ = some (.slice (some ⟨b0, o0, none⟩) 32 k0) ∧ X.cell? ⟨rb, ro + j1, none⟩ = some (.slice (some ⟨bj, oj, none⟩) 32 kj) ∧ X.cell? ⟨b0, o0 + j9, none⟩ = some (.int .u8 (d1 : Nat)) ∧ X.cell? ⟨b0, o0 + j10, none⟩ = some (.int .u8 (d2 : Nat))) := fun X hX => ⟨HC0.out X hX, cell_fr hcj (Fr.of_below (S := fun _ => False) hX) id, cell_fr hd1 (Fr.of_below (S := fun _ => False) hX) id, cell_fr hd2 (Fr.of_below (S := fun _ => False) hX) id⟩
              have HYJ := Lib.hid hyj
              have HJ32 := Lib.hid hj32
              have hTl : Hid (T.length = j) := by show _ = _; have := congrArg List.length hT.out; rw [List.length_map, ritems_len] at this; exact this
              have hjci : (j : Int) < (c8 : Int) := by omega
              clear hcj hd1 hd2 hj9 hj10 hj1 hyj hj32
              go_wp2_with fail
              refine wp_region_held_drew (S := fun X => X.cell? ⟨rb, ro, none⟩ = some (.slice (some ⟨b0, o0, none⟩) 32 k0) ∧ X.cell? ⟨rb, ro + j1, none⟩ = some (.slice (some ⟨bj, oj, none⟩) 32 kj) ∧ X.cell? ⟨b0, o0 + j9, none⟩ = some (.int .u8 (d1 : Nat)) ∧ X.cell? ⟨b0, o0 + j10, none⟩ = some (.int .u8 (d2 : Nat))) (by kernel_rfl) (show World.cell? _ _ = _ ∧ World.cell? _ _ = _ ∧ World.cell? _ _ = _ ∧ World.cell? _ _ = _ from HCL.out _ (belT Bw (by iterate 8 try (first | assumption | exact belR _ | apply belDr | apply belAlloc)))) (fun hHeld => ?_)
              refine wpAnyH_take (i := 0) (oi := _) (v := ?_) rfl (by kernel_rfl) (by kernel_rfl) (by kernel_rfl) (fun _ _ _ h => h) (Or.inl ⟨by rfl, ?_⟩) (by assumption) ?_
              rotate_left
              · intro w hSw
                (try dsimp only at hSw)
                go_simp
                try with_reducible rfl
              try simp only [Act.put, List.getElem_toArray, List.getElem_cons_zero, List.getElem_cons_succ, List.setIfInBounds_toArray, List.set_cons_zero, List.set_cons_succ]
              refine wpAnyH_take (i := 1) (oi := _) (v := ?_) rfl (by kernel_rfl) (by kernel_rfl) (by kernel_rfl) (fun _ _ _ h => h) (Or.inl ⟨by rfl, ?_⟩) (by assumption) ?_
              rotate_left
              · intro w hSw
                (try dsimp only at hSw)
                go_simp
                try with_reducible rfl
              try simp only [Act.put, List.getElem_toArray, List.getElem_cons_zero, List.getElem_cons_succ, List.setIfInBounds_toArray, List.set_cons_zero, List.set_cons_succ]
              refine wpAnyH_take (i := 2) (oi := _) (v := ?_) rfl (by kernel_rfl) (by kernel_rfl) (by kernel_rfl) (fun _ _ _ h => h) (Or.inl ⟨by rfl, ?_⟩) (by assumption) ?_
              rotate_left
              · intro w hSw
                (try dsimp only at hSw)
                go_simp
                try with_reducible rfl
              try simp only [Act.put, List.getElem_toArray, List.getElem_cons_zero, List.getElem_cons_succ, List.setIfInBounds_toArray, List.set_cons_zero, List.set_cons_succ]
              refine wpAnyH_take (i := 8) (oi := _) (v := ?_) rfl (by kernel_rfl) (by kernel_rfl) (by kernel_rfl) (fun _ _ _ h => h) (Or.inl ⟨by rfl, ?_⟩) (by assumption) ?_
              rotate_left
              · intro w hSw
                (try dsimp only at hSw)
                go_simp
                try with_reducible rfl
              try simp only [Act.put, List.getElem_toArray, List.getElem_cons_zero, List.getElem_cons_succ, List.setIfInBounds_toArray, List.set_cons_zero, List.set_cons_succ]
              refine wpAnyH_take (i := 9) (oi := _) (v := ?_) rfl (by kernel_rfl) (by kernel_rfl) (by kernel_rfl) (fun _ _ _ h => h) (Or.inl ⟨by rfl, ?_⟩) (by assumption) ?_
              rotate_left
              · intro w hSw
                (try dsimp only at hSw)
                go_simp
                try with_reducible rfl
              try simp only [Act.put, List.getElem_toArray, List.getElem_cons_zero, List.getElem_cons_succ, List.setIfInBounds_toArray, List.set_cons_zero, List.set_cons_succ]
              refine wpAnyH_take (i := 15) (oi := _) (v := ?_) rfl (by kernel_rfl) (by kernel_rfl) (by kernel_rfl) (fun _ _ _ h => h) (Or.inl ⟨by rfl, ?_⟩) (by assumption) ?_
              rotate_left
              · intro w hSw
                (try dsimp only at hSw)
                go_simp
                try with_reducible rfl
              try simp only [Act.put, List.getElem_toArray, List.getElem_cons_zero, List.getElem_cons_succ, List.setIfInBounds_toArray, List.set_cons_zero, List.set_cons_succ]
              refine wpAnyH_take (i := 16) (oi := _) (v := ?_) rfl (by kernel_rfl) (by kernel_rfl) (by kernel_rfl) (fun _ _ _ h => h) (Or.inl ⟨by rfl, ?_⟩) (by assumption) ?_
              rotate_left
              · intro w hSw
                (try dsimp only at hSw)
                go_simp
                try with_reducible rfl
              try simp only [Act.put, List.getElem_toArray, List.getElem_cons_zero, List.getElem_cons_succ, List.setIfInBounds_toArray, List.set_cons_zero, List.set_cons_succ]
              refine wpAnyH_take (i := 3) (oi := _) (v := ?_) rfl (by kernel_rfl) (by kernel_rfl) (by kernel_rfl) (fun _ _ _ h => h) (Or.inl ⟨by rfl, ?_⟩) (by assumption) ?_
              rotate_left
              · intro w hSw
                (try dsimp only at hSw)
                go_simp
                try with_reducible rfl
              try simp only [Act.put, List.getElem_toArray, List.getElem_cons_zero, List.getElem_cons_succ, List.setIfInBounds_toArray, List.set_cons_zero, List.set_cons_succ]
              refine wpAnyH_take (i := 10) (oi := _) (v := ?_) rfl (by kernel_rfl) (by kernel_rfl) (by kernel_rfl) (fun _ _ _ h => h) (Or.inl ⟨by rfl, ?_⟩) (by assumption) ?_
              rotate_left
              · intro w hSw
                (try dsimp only at hSw)
                go_simp
                try with_reducible rfl
              try simp only [Act.put, List.getElem_toArray, List.getElem_cons_zero, List.getElem_cons_succ, List.setIfInBounds_toArray, List.set_cons_zero, List.set_cons_succ]
              refine wpAnyH_take (i := 17) (oi := _) (v := ?_) rfl (by kernel_rfl) (by kernel_rfl) (by kernel_rfl) (fun _ _ _ h => h) (Or.inl ⟨by rfl, ?_⟩) (by assumption) ?_
              rotate_left
              · intro w hSw
                (try dsimp only at hSw)
                go_simp
                try with_reducible rfl
              try simp only [Act.put, List.getElem_toArray, List.getElem_cons_zero, List.getElem_cons_succ, List.setIfInBounds_toArray, List.set_cons_zero, List.set_cons_succ]
              refine wpAnyH_take (i := 4) (oi := _) (v := ?_) rfl (by kernel_rfl) (by kernel_rfl) (by kernel_rfl) (fun _ _ _ h => h) (Or.inl ⟨by rfl, ?_⟩) (by assumption) ?_
              rotate_left
              · intro w hSw
                (try dsimp only at hSw)
                go_simp
                try with_reducible rfl
              try simp only [Act.put, List.getElem_toArray, List.getElem_cons_zero, List.getElem_cons_succ, List.setIfInBounds_toArray, List.set_cons_zero, List.set_cons_succ]
              refine wpAnyH_take (i := 11) (oi := _) (v := ?_) rfl (by kernel_rfl) (by kernel_rfl) (by kernel_rfl) (fun _ _ _ h => h) (Or.inl ⟨by rfl, ?_⟩) (by assumption) ?_
              rotate_left
              · intro w hSw
                (try dsimp only at hSw)
                go_simp
                try with_reducible rfl
              try simp only [Act.put, List.getElem_toArray, List.getElem_cons_zero, List.getElem_cons_succ, List.setIfInBounds_toArray, List.set_cons_zero, List.set_cons_succ]
              refine wpAnyH_take (i := 18) (oi := _) (v := ?_) rfl (by kernel_rfl) (by kernel_rfl) (by kernel_rfl) (fun _ _ _ h => h) (Or.inl ⟨by rfl, ?_⟩) (by assumption) ?_
              rotate_left
              · intro w hSw
                (try dsimp only at hSw)
                go_simp
                try with_reducible rfl
              try simp only [Act.put, List.getElem_toArray, List.getElem_cons_zero, List.getElem_cons_succ, List.setIfInBounds_toArray, List.set_cons_zero, List.set_cons_succ]
              refine wpAnyH_take (i := 5) (oi := _) (v := ?_) rfl (by kernel_rfl) (by kernel_rfl) (by kernel_rfl) (fun _ _ _ h => h) (Or.inl ⟨by rfl, ?_⟩) (by assumption) ?_
              rotate_left
              · intro w hSw
                (try dsimp only at hSw)
                go_simp
                try with_reducible rfl
              try simp only [Act.put, List.getElem_toArray, List.getElem_cons_zero, List.getElem_cons_succ, List.setIfInBounds_toArray, List.set_cons_zero, List.set_cons_succ]
              refine wpAnyH_take (i := 12) (oi := _) (v := ?_) rfl (by kernel_rfl) (by kernel_rfl) (by kernel_rfl) (fun _ _ _ h => h) (Or.inl ⟨by rfl, ?_⟩) (by assumption) ?_
              rotate_left
              · intro w hSw
                (try dsimp only at hSw)
                go_simp
                try with_reducible rfl
              try simp only [Act.put, List.getElem_toArray, List.getElem_cons_zero, List.getElem_cons_succ, List.setIfInBounds_toArray, List.set_cons_zero, List.set_cons_succ]
              refine wpAnyH_take (i := 19) (oi := _) (v := ?_) rfl (by kernel_rfl) (by kernel_rfl) (by kernel_rfl) (fun _ _ _ h => h) (Or.inl ⟨by rfl, ?_⟩) (by assumption) ?_
              rotate_left
              · intro w hSw
                (try dsimp only at hSw)
                go_simp
                try with_reducible rfl
              try simp only [Act.put, List.getElem_toArray, List.getElem_cons_zero, List.getElem_cons_succ, List.setIfInBounds_toArray, List.set_cons_zero, List.set_cons_succ]
              refine wpAnyH_take (i := 6) (oi := _) (v := ?_) rfl (by kernel_rfl) (by kernel_rfl) (by kernel_rfl) (fun _ _ _ h => h) (Or.inl ⟨by rfl, ?_⟩) (by assumption) ?_
              rotate_left
              · intro w hSw
                (try dsimp only at hSw)
                go_simp
                try with_reducible rfl
              try simp only [Act.put, List.getElem_toArray, List.getElem_cons_zero, List.getElem_cons_succ, List.setIfInBounds_toArray, List.set_cons_zero, List.set_cons_succ]
              refine wpAnyH_take (i := 13) (oi := _) (v := ?_) rfl (by kernel_rfl) (by kernel_rfl) (by kernel_rfl) (fun _ _ _ h => h) (Or.inl ⟨by rfl, ?_⟩) (by assumption) ?_
              rotate_left
              · intro w hSw
                (try dsimp only at hSw)
                go_simp
                try with_reducible rfl
              try simp only [Act.put, List.getElem_toArray, List.getElem_cons_zero, List.getElem_cons_succ, List.setIfInBounds_toArray, List.set_cons_zero, List.set_cons_succ]
              refine wpAnyH_take (i := 7) (oi := _) (v := ?_) rfl (by kernel_rfl) (by kernel_rfl) (by kernel_rfl) (fun _ _ _ h => h) (Or.inl ⟨by rfl, ?_⟩) (by assumption) ?_
              rotate_left
              · intro w hSw
                (try dsimp only at hSw)
                go_simp
                try with_reducible rfl
              try simp only [Act.put, List.getElem_toArray, List.getElem_cons_zero, List.getElem_cons_succ, List.setIfInBounds_toArray, List.set_cons_zero, List.set_cons_succ]
              refine wpAnyH_take (i := 14) (oi := _) (v := ?_) rfl (by kernel_rfl) (by kernel_rfl) (by kernel_rfl) (fun _ _ _ h => h) (Or.inl ⟨by rfl, ?_⟩) (by assumption) ?_
              rotate_left
              · intro w hSw
                (try dsimp only at hSw)
                go_simp
                try with_reducible rfl
              try simp only [Act.put, List.getElem_toArray, List.getElem_cons_zero, List.getElem_cons_succ, List.setIfInBounds_toArray, List.set_cons_zero, List.set_cons_succ]
              refine wpAnyH_ready (rs := [20]) (by kernel_rfl) (by simp) ?_
              refine AllReadyH.cons (o := _) rfl (fun K hK => ?_) AllReadyH.nil
              rw [if_pos (by rfl)]
              refine wp_append_bytes _ _ 37 rfl j0 Try.underlying37 hj hy0 hy1 hy2 wr.heap.size (.slice none 0 0) [] rfl (Own.empty _ _) bj oj 32 kj pj rfl (HYJ.out.up (belT Bw (by iterate 8 try (first | assumption | exact belR _ | apply belDr | apply belAlloc)))) (by rw [HJ32.out]; decide) ((by iterate 8 try (first | assumption | exact belR _ | apply belDr | apply belAlloc)) : Below wr.heap.size wr _).size ?_
              intro v8 w8 OS gS8
              rw [List.nil_append] at OS
              have B8 : Below wr.heap.size wr w8 := belT (by iterate 8 try (first | assumption | exact belR _ | apply belDr | apply belAlloc)) (grown_below gS8)
              obtain ⟨gS, cS, rfl, hgS, _⟩ := own_shape (n := 32) (by have := OS.2; rwa [HJ32.out] at this) (by decide)
              refine hK.out _ _ (show World.cell? _ _ = _ ∧ World.cell? _ _ = _ ∧ World.cell? _ _ = _ ∧ World.cell? _ _ = _ from HCL.out _ (belT Bw B8)) (fun hHeld => ?_)
              clear hK K
              try simp only [Act.put, List.getElem_toArray, List.getElem_cons_zero, List.getElem_cons_succ, List.setIfInBounds_toArray, List.set_cons_zero, List.set_cons_succ]
              refine wpAnyH_take (i := 21) (oi := _) (v := ?_) rfl (by kernel_rfl) (by kernel_rfl) (by kernel_rfl) (fun _ _ _ h => h) (Or.inl ⟨by rfl, ?_⟩) (by assumption) ?_
              rotate_left
              · intro w hSw
                (try dsimp only at hSw)
                go_simp
                try with_reducible rfl
              try simp only [Act.put, List.getElem_toArray, List.getElem_cons_zero, List.getElem_cons_succ, List.setIfInBounds_toArray, List.set_cons_zero, List.set_cons_succ]
              refine wpAnyH_ready (rs := [22]) (by kernel_rfl) (by simp) ?_
              refine AllReadyH.cons (o := _) rfl (fun K hK => ?_) AllReadyH.nil
              go_simp
              refine hK.out _ _ (show World.cell? _ _ = _ ∧ World.cell? _ _ = _ ∧ World.cell? _ _ = _ ∧ World.cell? _ _ = _ from HCL.out _ (belT Bw (by first | exact belA1 B8 | exact belDr (belA1 B8)))) (fun hHeld => ?_)
              clear hK K
              try simp only [Act.put, List.getElem_toArray, List.getElem_cons_zero, List.getElem_cons_succ, List.setIfInBounds_toArray, List.set_cons_zero, List.set_cons_succ]
              refine wpAnyH_ready (rs := [23]) (by kernel_rfl) (by simp) ?_
              refine AllReadyH.cons (o := _) rfl (fun K hK => ?_) AllReadyH.nil
              rw [if_pos (by rfl)]
              refine wp_append_items _ _ 33 75 rfl i0 _ Try.underlying33 hi hz0 hz1 hz2 rfl wE.heap.size u9 T rfl (O.up (belA1 B8)) _ 1 1 [((⟨((d1 : Nat) : Int), ((d2 : Nat) : Int), pj⟩ : RI), Value.slice (some ⟨gS, 0, none⟩) 32 cS)] rfl rfl (news_one _ ((⟨((d1 : Nat) : Int), ((d2 : Nat) : Int), pj⟩ : RI), Value.slice (some ⟨gS, 0, none⟩) 32 cS) _ _ (by first | rfl | simp)) (fun p hp => by rw [List.mem_singleton.1 hp]; exact ⟨OS.byt.up (belA1 (belR _)), ⟨⟨by dsimp only; omega, by dsimp only; omega⟩, ⟨by dsimp only; omega, by dsimp only; omega⟩⟩, .inr (fun g hg e => by cases hg; have h1 := O.lt gS e; have h2 : wr.heap.size ≤ gS := hgS; omega)⟩) (by have := hTl.out; simp; omega) (by have h1 := BR.size; have h2 := B8.size; simp; omega) ?_
              intro v9 w9 O9 g9 p9
              have B9 : Below wE.heap.size wE w9 := belG (belT BR (belA1 B8)) g9 (fun g hg => O.ge g hg)
              refine hK.out _ _ (show World.cell? _ _ = _ ∧ World.cell? _ _ = _ ∧ World.cell? _ _ = _ ∧ World.cell? _ _ = _ from HCL.out _ (belT BE B9)) (fun hHeld => ?_)
              clear hK K
              try simp only [Act.put, List.getElem_toArray, List.getElem_cons_zero, List.getElem_cons_succ, List.setIfInBounds_toArray, List.set_cons_zero, List.set_cons_succ]
              refine wpAnyH_take (i := 24) (oi := _) (v := ?_) rfl (by kernel_rfl) (by kernel_rfl) (by kernel_rfl) (fun _ _ _ h => h) (Or.inl ⟨by rfl, ?_⟩) (by assumption) ?_
              rotate_left
              · intro w hSw
                (try dsimp only at hSw)
                go_simp
                try with_reducible rfl
              try simp only [Act.put, List.getElem_toArray, List.getElem_cons_zero, List.getElem_cons_succ, List.setIfInBounds_toArray, List.set_cons_zero, List.set_cons_succ]
              refine wpAnyH_done (by kernel_rfl) ?_ _
              go_wp2
              go_roundw
              case rel => exact ⟨j + 1, T ++ [((⟨((d1 : Nat) : Int), ((d2 : Nat) : Int), pj⟩ : RI), Value.slice (some ⟨gS, 0, none⟩) 32 cS)], by omega, by go_num, Lib.hid (by rw [List.map_append, hT.out, ritems_succ, HIT.out]; rfl), by first | exact O9 | exact O9.up (belDr (belR _)), by first | exact B9 | exact belDr B9⟩
              case measure => simp [intOf]; omega
            · have hjcn : j = c8 := by omega
              have HLR : Hid (T.map Prod.fst = rlist ls) := by show _ = _; rw [hT.out, HCN.out, hjcn]
              obtain ⟨av, cv, ev, _, _, _⟩ := O.shape
              obtain ⟨tn, htn⟩ : ∃ tn, tn = T.length := ⟨_, rfl⟩
              rw [← htn] at ev
              subst ev
              have HI := Lib.hid O.items
              rw [HLR.out] at HI
              have HM : Hid (Byt w (.slice (some ⟨b0, o0 + 4, none⟩) 28 (k0 - 4)) (p0.drop 4)) := HY0.out.drop (k := 4) (by decide)
              have HSQ : Hid (rnum ls = (num ((p0.drop 4).take 4) : Nat)) := by
                show _ = _
                unfold rnum rseq
                rw [show ls.getD 0 [] = p0 by rw [List.getD_eq_getElem?_getD, hp0.out]; rfl]
              obtain ⟨q, hq⟩ : ∃ q, q = num ((p0.drop 4).take 4) := ⟨_, rfl⟩
              rw [← hq] at HSQ
              have hq32 : q < 4294967296 := by
                rw [hq]
                have h8 : ∀ c ∈ (p0.drop 4).take 4, c < 256 := fun c hc => HM.out.bytes c (List.mem_of_mem_take hc)
                have hl4 : ((p0.drop 4).take 4).length = 4 := by rw [List.length_take, List.length_drop, h032]; rfl
                match (p0.drop 4).take 4, hl4, h8 with
                | [a, b, c, d], _, h8 =>
                  have ha := h8 a (by simp)
                  have hb := h8 b (by simp)
                  have hc := h8 c (by simp)
                  have hd := h8 d (by simp)
                  simp [num]
                  omega
              have hnb : i64b (q : Int) := ⟨by omega, by omega⟩
              have HNB := Lib.hid hnb
              have HNUM : Hid (∀ X, Below w.heap.size w X → Calls Try.prog 56 #[.slice (some ⟨b0, o0 + 4, none⟩) 28 (k0 - 4)] X fun e w' => e = .returned (.int .i64 (q : Int)) ∧ Below X.heap.size X w') := fun X hX => by
                have := number_any _ _ _ _ X (HM.out.up hX) (by decide) (by decide)
                rwa [← hq] at this
              have hjB : decide ((j : Int) < (c8 : Int)) = false := by rw [decide_eq_false_iff_not]; omega
              have hjP : ((j : Int) < (c8 : Int)) = False := by rw [eq_iff_iff]; exact ⟨fun h => by omega, fun h => h.elim⟩
              have hk04 : ¬ k0 = 4 := by omega
              clear hjc hjcn htn hnb hq
              go_wp2_with fail
              refine Calls.mono (HNUM.out _ Bw) ?_
              rintro e w5 ⟨rfl, b5⟩
              have B5 := belT Bw b5
              cases hok : rok (rnum ls) (rlist ls) with
              | false =>
                have HNO : Hid (ris ls = false) := by show _ = _; unfold ris; rw [hok, Bool.and_false, Bool.false_and]
                have hc := refrec_no (rnum ls) _ (rlist ls) w5 (by rw [HSQ.out]; exact HNB.out) (HI.out.up b5) hok
                rw [HSQ.out] at hc
                have HC := Lib.hid hc
                clear hc hok
                go_wp2_with fail
                refine Calls.mono HC.out ?_
                rintro e w6 ⟨rfl, b6⟩
                go_wp2
                go_ret3
                exact ref_none HNO.out (belT B5 b6)
              | true =>
                have hc := refrec_ok (rnum ls) _ (rlist ls) w5 (HI.out.up b5) hok
                have HOK := Lib.hid hok
                obtain ⟨RC, hRC⟩ : ∃ RC, RC = renc (rnum ls) (rlist ls) := ⟨_, rfl⟩
                have HR4 : Hid (RC.length = 4) := by show _ = _; rw [hRC]; exact renc_len ((rok_iff _ _).1 hok).2.1
                have HIS : Hid (RC = ls → ris ls = true) := fun e => (ris_iff ls).2 ⟨(rform_iff ls).1 hform.out, HOK.out, by rw [← hRC]; exact e⟩
                have HISN : Hid (RC ≠ ls → ris ls = false) := fun e => by rw [Bool.eq_false_iff]; intro h; exact e (by rw [hRC]; exact ((ris_iff ls).1 h).2.2)
                rw [← hRC] at hc
                rw [show (Value.int .i64 (rnum ls)) = .int .i64 (q : Int) by rw [HSQ.out]] at hc
                have HC := Lib.hid hc
                clear hc hok hRC
                go_wp2_with fail
                refine Calls.mono HC.out ?_
                rintro e w6 ⟨v6, rfl, O6, b6⟩
                obtain ⟨a6, c6, e6, q6, _⟩ := O6.shape
                rw [HR4.out] at e6 q6
                subst e6
                have P6 := Lib.hid O6.parts
                have B6 := belT B5 b6
                clear O6
                go_wp2_with fail
                go_loopw [77] (fun i W => ∃ k : Nat, k ≤ 4 ∧ i = .int .i64 k ∧ Hid (RC.take k = ls.take k) ∧ Below w6.heap.size w6 W) (fun i _ => 4 - (intOf i).toNat)
                case atStart => exact ⟨0, by decide, rfl, Lib.hid rfl, belR _⟩
                case round =>
                  obtain ⟨k, hk4, rfl, hall, BX⟩ := hrel
                  by_cases hkt : k < 4
                  · obtain ⟨b7, o7, c7, p7, rfl, hc7, hp7, hy7⟩ := (P6.out.up BX).get (k := k) (by rw [HR4.out]; exact hkt)
                    obtain ⟨b8, o8, c8', p8, he8, hc8', hp8, hy8⟩ := (HP.out.up (belT B6 BX)).get (k := k) (by rw [← HN.out]; exact hkt)
                    simp only [Option.some.injEq, Addr.mk.injEq] at he8
                    obtain ⟨rfl, rfl, _⟩ := he8
                    obtain ⟨a7, k7, rfl, _, _⟩ := hy7.shape
                    obtain ⟨a8, k8, rfl, _, _⟩ := hy8.shape
                    have hcv : ∀ X, Below wr.heap.size wr X → (X.cell? ⟨b7, o7 + k, none⟩ = some (.slice a7 p7.length k7) ∧ X.cell? ⟨rb, ro + k, none⟩ = some (.slice a8 p8.length k8)) ∧ (convert 37 9 (.slice a7 p7.length k7)).run Try.prog X = .ok (.string (strB p7)) X ∧ (convert 37 9 (.slice a8 p8.length k8)).run Try.prog X = .ok (.string (strB p8)) X := fun X hX => ⟨⟨cell_fr hc7 (Fr.of_below (S := fun _ => False) hX) id, cell_fr hc8' (Fr.of_below (S := fun _ => False) hX) id⟩, (hy7.up hX).conv, (hy8.up hX).conv⟩
                    obtain ⟨pb, hpb⟩ : ∃ pb, decide (p7 = p8) = pb := ⟨_, rfl⟩
                    have hse : ((strB p7).toList == (strB p8).toList) = pb := by
                      rw [← hpb, ← beq_toListBytes]
                      have e : (strB p7 == strB p8) = ((p7.map UInt8.ofNat).toArray == (p8.map UInt8.ofNat).toArray) := rfl
                      rw [e, Bool.eq_iff_iff, decide_eq_true_iff, beq_iff_eq]
                      exact ⟨fun e => strB_inj hy7.bytes hy8.bytes (by unfold strB; rw [e]), fun e => by rw [e]⟩
                    have hsn : ((strB p7).toList != (strB p8).toList) = !pb := by rw [bne, hse]
                    have HPB := Lib.hid hpb
                    have HCV := Lib.hid hcv
                    obtain ⟨m7, hm7⟩ : ∃ m, m = p7.length := ⟨_, rfl⟩
                    obtain ⟨m8, hm8⟩ : ∃ m, m = p8.length := ⟨_, rfl⟩
                    rw [← hm7, ← hm8] at HCV
                    generalize strB p7 = sa at *
                    generalize strB p8 = sb at *
                    have hkti : (k : Int) < 4 := by omega
                    have hkt0 : (0 : Int) ≤ (k : Int) := by omega
                    clear hcv hpb hy7 hy8 hc7 hc8' hm7 hm8
                    go_wp2_with fail
                    refine wp_region_held_drew (S := fun X => (X.cell? ⟨b7, o7 + k, none⟩ = some (.slice a7 m7 k7) ∧ X.cell? ⟨rb, ro + k, none⟩ = some (.slice a8 m8 k8)) ∧ (convert 37 9 (.slice a7 m7 k7)).run Try.prog X = .ok (.string sa) X ∧ (convert 37 9 (.slice a8 m8 k8)).run Try.prog X = .ok (.string sb) X) (by kernel_rfl) (by exact HCV.out _ (by iterate 8 try (first | assumption | exact belR _ | apply belDr | apply belAlloc))) (fun hHeld => ?_)
                    refine wpAnyH_take (i := 0) (oi := _) (v := ?_) rfl (by kernel_rfl) (by kernel_rfl) (by kernel_rfl) (fun _ _ _ h => h) (Or.inl ⟨by rfl, ?_⟩) (by assumption) ?_
                    rotate_left
                    · intro w hSw
                      (try dsimp only at hSw)
                      go_simp
                      try with_reducible rfl
                    try simp only [Act.put, List.getElem_toArray, List.getElem_cons_zero, List.getElem_cons_succ, List.setIfInBounds_toArray, List.set_cons_zero, List.set_cons_succ]
                    refine wpAnyH_take (i := 1) (oi := _) (v := ?_) rfl (by kernel_rfl) (by kernel_rfl) (by kernel_rfl) (fun _ _ _ h => h) (Or.inl ⟨by rfl, ?_⟩) (by assumption) ?_
                    rotate_left
                    · intro w hSw
                      (try dsimp only at hSw)
                      go_simp
                      try with_reducible rfl
                    try simp only [Act.put, List.getElem_toArray, List.getElem_cons_zero, List.getElem_cons_succ, List.setIfInBounds_toArray, List.set_cons_zero, List.set_cons_succ]
                    refine wpAnyH_take (i := 5) (oi := _) (v := ?_) rfl (by kernel_rfl) (by kernel_rfl) (by kernel_rfl) (fun _ _ _ h => h) (Or.inl ⟨by rfl, ?_⟩) (by assumption) ?_
                    rotate_left
                    · intro w hSw
                      (try dsimp only at hSw)
                      go_simp
                      try with_reducible rfl
                    try simp only [Act.put, List.getElem_toArray, List.getElem_cons_zero, List.getElem_cons_succ, List.setIfInBounds_toArray, List.set_cons_zero, List.set_cons_succ]
                    refine wpAnyH_take (i := 6) (oi := _) (v := ?_) rfl (by kernel_rfl) (by kernel_rfl) (by kernel_rfl) (fun _ _ _ h => h) (Or.inl ⟨by rfl, ?_⟩) (by assumption) ?_
                    rotate_left
                    · intro w hSw
                      (try dsimp only at hSw)
                      go_simp
                      try with_reducible rfl
                    try simp only [Act.put, List.getElem_toArray, List.getElem_cons_zero, List.getElem_cons_succ, List.setIfInBounds_toArray, List.set_cons_zero, List.set_cons_succ]
                    refine wpAnyH_take (i := 2) (oi := _) (v := ?_) rfl (by kernel_rfl) (by kernel_rfl) (by kernel_rfl) (fun _ _ _ h => h) (Or.inl ⟨by rfl, ?_⟩) (by assumption) ?_
                    rotate_left
                    · intro w hSw
                      (try dsimp only at hSw)
                      go_simp
                      try with_reducible rfl
                    try simp only [Act.put, List.getElem_toArray, List.getElem_cons_zero, List.getElem_cons_succ, List.setIfInBounds_toArray, List.set_cons_zero, List.set_cons_succ]
                    refine wpAnyH_take (i := 7) (oi := _) (v := ?_) rfl (by kernel_rfl) (by kernel_rfl) (by kernel_rfl) (fun _ _ _ h => h) (Or.inl ⟨by rfl, ?_⟩) (by assumption) ?_
                    rotate_left
                    · intro w hSw
                      (try dsimp only at hSw)
                      go_simp
                      try with_reducible rfl
                    try simp only [Act.put, List.getElem_toArray, List.getElem_cons_zero, List.getElem_cons_succ, List.setIfInBounds_toArray, List.set_cons_zero, List.set_cons_succ]
                    refine wpAnyH_take (i := 3) (oi := _) (v := ?_) rfl (by kernel_rfl) (by kernel_rfl) (by kernel_rfl) (fun _ _ _ h => h) (Or.inl ⟨by rfl, ?_⟩) (by assumption) ?_
                    rotate_left
                    · intro w hSw
                      (try dsimp only at hSw)
                      go_simp
                      try with_reducible rfl
                    try simp only [Act.put, List.getElem_toArray, List.getElem_cons_zero, List.getElem_cons_succ, List.setIfInBounds_toArray, List.set_cons_zero, List.set_cons_succ]
                    refine wpAnyH_take (i := 8) (oi := _) (v := ?_) rfl (by kernel_rfl) (by kernel_rfl) (by kernel_rfl) (fun _ _ _ h => h) (Or.inl ⟨by rfl, ?_⟩) (by assumption) ?_
                    rotate_left
                    · intro w hSw
                      (try dsimp only at hSw)
                      go_simp
                      try with_reducible rfl
                    try simp only [Act.put, List.getElem_toArray, List.getElem_cons_zero, List.getElem_cons_succ, List.setIfInBounds_toArray, List.set_cons_zero, List.set_cons_succ]
                    refine wpAnyH_take (i := 4) (oi := _) (v := ?_) rfl (by kernel_rfl) (by kernel_rfl) (by kernel_rfl) (fun _ _ _ h => h) (Or.inl ⟨by rfl, ?_⟩) (by assumption) ?_
                    rotate_left
                    · intro w hSw
                      (try dsimp only at hSw)
                      go_simp
                      try with_reducible rfl
                    try simp only [Act.put, List.getElem_toArray, List.getElem_cons_zero, List.getElem_cons_succ, List.setIfInBounds_toArray, List.set_cons_zero, List.set_cons_succ]
                    refine wpAnyH_take (i := 9) (oi := _) (v := ?_) rfl (by kernel_rfl) (by kernel_rfl) (by kernel_rfl) (fun _ _ _ h => h) (Or.inl ⟨by rfl, ?_⟩) (by assumption) ?_
                    rotate_left
                    · intro w hSw
                      (try dsimp only at hSw)
                      go_simp
                      try with_reducible rfl
                    try simp only [Act.put, List.getElem_toArray, List.getElem_cons_zero, List.getElem_cons_succ, List.setIfInBounds_toArray, List.set_cons_zero, List.set_cons_succ]
                    refine wpAnyH_take (i := 10) (oi := _) (v := ?_) rfl (by kernel_rfl) (by kernel_rfl) (by kernel_rfl) (fun _ _ _ h => h) (Or.inl ⟨by rfl, ?_⟩) (by assumption) ?_
                    rotate_left
                    · intro w hSw
                      (try dsimp only at hSw)
                      go_simp
                      try with_reducible rfl
                    try simp only [Act.put, List.getElem_toArray, List.getElem_cons_zero, List.getElem_cons_succ, List.setIfInBounds_toArray, List.set_cons_zero, List.set_cons_succ]
                    refine wpAnyH_done (by kernel_rfl) ?_ _
                    cases pb with
                    | true =>
                      go_wp2
                      go_roundw
                      case rel => exact ⟨k + 1, by omega, by go_num, Lib.hid (by rw [take_succ_get hp7.out, take_succ_get hp8.out, hall.out, of_decide_eq_true HPB.out]), by first | exact BX | exact belDr BX⟩
                      case measure => simp [intOf]; omega
                    | false =>
                      go_wp2
                      go_ret3
                      exact ref_none (HISN.out (fun e => by have h9 := hp7.out; rw [e, hp8.out] at h9; exact (of_decide_eq_false HPB.out) (Option.some.inj h9).symm)) (by first | exact belT B6 BX | exact belDr (belT B6 BX))
                  · have hkB : decide ((k : Int) < 4) = false := by rw [decide_eq_false_iff_not]; omega
                    have hkP : ((k : Int) < 4) = False := by rw [eq_iff_iff]; exact ⟨fun h => by omega, fun h => h.elim⟩
                    have HT : Hid (ris ls = true) := HIS.out (by
                      have h9 := hall.out
                      rwa [List.take_of_length_le (by rw [HR4.out]; omega), List.take_of_length_le (by rw [← HN.out]; omega)] at h9)
                    clear hkt
                    go_wp2_with fail
                    refine Calls.mono (HNUM.out _ (belT B6 BX)) ?_
                    rintro e w7 ⟨rfl, b7⟩
                    go_wp2
                    go_ret3
                    exact ⟨_, _, _, _, rfl, HI.out.up (belT b5 (belT b6 (belT BX b7))), HNB.out, belT B6 (belT BX b7), .inl ⟨HT.out, rfl, HSQ.out.symm, rfl⟩⟩
        · have h3P : (3 : Int) < (c8 : Int) := by omega
          have HNO : Hid (ris ls = false) := by show _ = _; rw [Bool.eq_false_iff]; intro h; exact hc3 (ris_count hp0.out hck8.out h)
          clear hc3
          go_wp2
          go_ret3
          exact ref_none HNO.out B
  · have hno : Hid (ris ls = false) := ris_form (by rw [Bool.eq_false_iff]; intro e; exact h4 (by rw [HN.out]; exact ((rform_iff ls).1 e).1))
    have hb4 : ((n : Int) != 4) = true := by rw [bne_iff_ne]; omega
    clear h4
    go_enter Try.func34, Try.ntmps34
    go_wp2
    go_ret3
    exact ref_none hno.out (belR _)
end Go.Proofs.Ytgnnkglmlopldaa
