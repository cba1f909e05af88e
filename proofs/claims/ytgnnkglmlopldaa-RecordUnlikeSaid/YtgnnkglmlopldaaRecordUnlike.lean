/- The walk of RecordUnlike (chapter 11). True at every input. -/
import Derived.Test.YtgnnkglmlopldaaRecOk
import Derived.Test.YtgnnkglmlopldaaRecO
import Derived.Test.YtgnnkglmlopldaaRecS
namespace Go.Proofs.Ytgnnkglmlopldaa
open Go.RowKit C
set_option linter.unusedVariables false
set_option linter.unusedSimpArgs false
set_option maxRecDepth 100000
set_option maxHeartbeats 1000000

theorem tmod60 (n : Int) : i64b (n.tmod 60) := by
  unfold i64b
  rw [tmod_cases]
  split <;> omega
theorem grown_set (w : World) (g o : Nat) (u : Value) : w.grownBy (w.setCell ⟨g, o, none⟩ u) (some g) :=
  ⟨rfl, rfl, rfl, by simp [World.setCell], fun k _ hk => Below.heap_setCell _ _ _ _ (fun e => hk (by rw [e]))⟩
theorem recordUnlike_law (W : World) (seq : Int) (h0 : -9223372036854775808 ≤ seq ∧ seq ≤ 9223372036854775807) (other : Int) (h1 : -9223372036854775808 ≤ other ∧ other ≤ 9223372036854775807) (lv : Value) (ll : List Int) (hl : Ints W lv ll) (hll : ll.length * 8 ≤ 140737488351232) (mv : Value) (mm : List Int) (hm : Ints W mv mm) (hmm : mm.length * 8 ≤ 140737488351232) (how : Int) (h6 : -9223372036854775808 ≤ how ∧ how ≤ 9223372036854775807) (what : Int) (h7 : -9223372036854775808 ≤ what ∧ what ≤ 9223372036854775807) :
    Calls Try.prog 4 #[.int .i64 seq, .int .i64 other, lv, mv, .int .i64 how, .int .i64 what] W fun e W' => e = .returned (.bool true) ∧ Below W.heap.size W W' := by
  have HOF := Lib.hid (of11_any seq (how.tmod 60) lv ll W h0 (tmod60 how) hl)
  have HOG : Hid (∀ X, Below W.heap.size W X → Calls Try.prog 13 #[.int .i64 other, mv, .int .i64 (what.tmod 60)] X (SomeRec X)) := fun X hX => of11_any other (what.tmod 60) mv mm X h1 (tmod60 what) (hm.up hX)
  have t60 := tmod60 how
  have t61 := tmod60 what
  obtain ⟨t60a, t60b⟩ := t60
  obtain ⟨t61a, t61b⟩ := t61
  obtain ⟨h6a, h6b⟩ := h6
  obtain ⟨h7a, h7b⟩ := h7
  clear h0 h1 hl hll hm hmm
  go_enter Try.func4, Try.ntmps4
  go_wp2_with fail
  refine Calls.mono HOF.out ?_
  rintro e w1 ⟨s, v, l, rfl, hs, HI, hl6, b1⟩
  go_wp2_with fail
  refine Calls.mono (HOG.out _ b1) ?_
  rintro e w2 ⟨t, u, m, rfl, ht, HJ, hm6, b2⟩
  have HI := HI.up b2
  obtain ⟨av, cv, ev, _⟩ := HI.shape
  obtain ⟨n, hn⟩ : ∃ n, n = l.length := ⟨_, rfl⟩
  rw [← hn] at ev
  subst ev
  obtain ⟨au, cu, eu, _⟩ := HJ.shape
  obtain ⟨n', hn'⟩ : ∃ n, n = m.length := ⟨_, rfl⟩
  rw [← hn'] at eu
  subst eu
  have HN := Lib.hid hn
  have HN' := Lib.hid hn'
  clear hn hn' hl6 hm6
  have HI := Lib.hid HI
  have HJ := Lib.hid HJ
  obtain ⟨w0, hw0⟩ : ∃ w0, w0 = (w2.alloc (.cells #[.int .i64 s, .slice av n cv] 25)).alloc (.cells #[.int .i64 t, .slice au n' cu] 25) := ⟨_, rfl⟩
  have HK : Hid (∀ X, Below w0.heap.size w0 X → (X.cell? ⟨w2.heap.size, 0, none⟩ = some (.int .i64 s) ∧ X.cell? ⟨w2.heap.size, 1, none⟩ = some (.slice av n cv)) ∧ X.cell? ⟨w2.heap.size + 1, 0, none⟩ = some (.int .i64 t) ∧ X.cell? ⟨w2.heap.size + 1, 1, none⟩ = some (.slice au n' cu)) := by
    intro X hX
    rw [hw0] at hX
    have e := box_up hX 0 rfl
    have e' := box_up hX 1 rfl
    simp only [World.size_alloc] at e e'
    exact ⟨⟨box_up2 hX 0 rfl, box_up2 hX 1 rfl⟩, e, e'⟩
  have B0 : Below w2.heap.size w2 w0 := by rw [hw0]; exact belA2 (belR _)
  have B01 : Below W.heap.size W w0 := belT (belT b1 b2) B0
  have HW0 := Lib.hid hw0
  clear hw0
  cases hok : rok s l with
  | false =>
    go_wp2_with fail
    rw [← HW0.out]
    refine Calls.mono (rencode_no s _ l _ hs (HI.out.up B0) hok) ?_
    rintro e w3 ⟨rfl, b3⟩
    obtain ⟨⟨x0, x1⟩, x2, x3⟩ := HK.out _ b3
    cases hok2 : rok t m with
    | false =>
      go_wp2_with fail
      refine Calls.mono (rencode_no t _ m _ ht (HJ.out.up (belT B0 b3)) hok2) ?_
      rintro e w4 ⟨rfl, b4⟩
      go_wp2_with fail
      refine Calls.mono (wakes11_any _) ?_
      rintro e w5 ⟨rfl, b5⟩
      go_wp2_with fail
      go_ret
      exact ⟨rfl, belT B01 (belT b3 (belT b4 b5))⟩
    | true =>
      go_wp2_with fail
      refine Calls.mono (rencode_ok t _ m _ (HJ.out.up (belT B0 b3)) hok2) ?_
      rintro e w4 ⟨v4, rfl, O4, b4⟩
      go_wp2_with fail
      refine Calls.mono (wakes11_any _) ?_
      rintro e w5 ⟨rfl, b5⟩
      go_wp2_with fail
      go_ret
      exact ⟨rfl, belT B01 (belT b3 (belT b4 b5))⟩
  | true =>
    have HOK := Lib.hid hok
    go_wp2_with fail
    rw [← HW0.out]
    refine Calls.mono (rencode_ok s _ l _ (HI.out.up B0) hok) ?_
    rintro e w3 ⟨v3, rfl, O3, b3⟩
    obtain ⟨⟨x0, x1⟩, x2, x3⟩ := HK.out _ b3
    cases hok2 : rok t m with
    | false =>
      go_wp2_with fail
      refine Calls.mono (rencode_no t _ m _ ht (HJ.out.up (belT B0 b3)) hok2) ?_
      rintro e w4 ⟨rfl, b4⟩
      go_wp2_with fail
      refine Calls.mono (wakes11_any _) ?_
      rintro e w5 ⟨rfl, b5⟩
      go_wp2_with fail
      go_ret
      exact ⟨rfl, belT B01 (belT b3 (belT b4 b5))⟩
    | true =>
      have HOK2 := Lib.hid hok2
      go_wp2_with fail
      refine Calls.mono (rencode_ok t _ m _ (HJ.out.up (belT B0 b3)) hok2) ?_
      rintro e w4 ⟨v4, rfl, O4, b4⟩
      clear x0 x1 x2 x3 hok hok2
      have hA4 : Hid ((renc s l).length = 4) := renc_len ((rok_iff s l).1 HOK.out).2.1
      have hB4 : Hid ((renc t m).length = 4) := renc_len ((rok_iff t m).1 HOK2.out).2.1
      have hA32 : Hid (∀ p ∈ renc s l, p.length = 32) := renc_32 ((rok_iff s l).1 HOK.out).2.1 (rok_fine HOK.out)
      obtain ⟨A, hA⟩ : ∃ A, A = renc s l := ⟨_, rfl⟩
      obtain ⟨C, hC⟩ : ∃ C, C = renc t m := ⟨_, rfl⟩
      have HAB : Hid (decide (A = C) = rsame s l t m) := by
        show _ = _
        unfold rsame
        rw [decide_eq_decide, hA, hC]
        exact ⟨fun e => renc_inj HOK.out HOK2.out e, fun ⟨e1, e2⟩ => by rw [e1, e2]⟩
      have HAR : Hid (∀ (i : Nat) (x : RI), l[i]? = some x → A[i + 1]? = some x.b) := by
        intro i x hx
        rw [hA]
        show (rrows l)[i]? = _
        have hi := (List.getElem?_eq_some_iff.1 hx).1
        unfold rrows
        rw [List.getElem?_append_left (by rw [List.length_map]; exact hi), List.getElem?_map, hx]
        rfl
      rw [← hA] at O3 hA4 hA32
      rw [← hC] at O4 hB4
      have HA := Lib.hid hA
      clear hA hC
      have O3 := O3.up b4
      obtain ⟨a3, c3, e3, q1, q2⟩ := O3.shape
      rw [hA4.out] at e3 q1
      subst e3
      obtain ⟨a4, c4, e4, r1, r2⟩ := O4.shape
      rw [hB4.out] at e4 r1
      subst e4
      have P3 := Lib.hid O3.parts
      have P4 := Lib.hid O4.parts
      have O3 := Lib.hid O3
      clear O4
      go_wp2_with fail
      go_loopw [19, 59] (fun b i X => ∃ k : Nat, k ≤ 4 ∧ i = .int .i64 k ∧ b = .bool (decide (A.take k = C.take k)) ∧ Below w4.heap.size w4 X) (fun _ i _ => 4 - (intOf i).toNat)
      case atStart => exact ⟨0, by omega, rfl, rfl, belR _⟩
      case round =>
        obtain ⟨k, hk, rfl, rfl, B⟩ := hrel
        by_cases hlt : k < 4
        · obtain ⟨b', o', c', p', rfl, hc1, hp1, hy1⟩ := (P3.out.up B).get (k := k) (by rw [hA4.out]; exact hlt)
          obtain ⟨b'', o'', c'', p'', rfl, hc2, hp2, hy2⟩ := (P4.out.up B).get (k := k) (by rw [hB4.out]; exact hlt)
          have hki : (k : Int) < 4 := by omega
          have hki0 : (0 : Int) ≤ (k : Int) := by omega
          obtain ⟨ax, cx, rfl, _, _⟩ := hy1.shape
          obtain ⟨ay, cy, rfl, _, _⟩ := hy2.shape
          have HY1 := Lib.hid hy1
          have HY2 := Lib.hid hy2
          obtain ⟨bb, hbb⟩ : ∃ bb, decide (A.take k = C.take k) = bb := ⟨_, rfl⟩
          have HBB := Lib.hid hbb
          have HST : Hid (decide (A.take (k + 1) = C.take (k + 1)) = (bb && decide (p' = p''))) := by
            show _ = _
            rw [← hbb, take_succ_get hp1.out, take_succ_get hp2.out, Bool.eq_iff_iff, decide_eq_true_iff, Bool.and_eq_true, decide_eq_true_iff, decide_eq_true_iff]
            constructor
            · intro e
              have hl2 : (A.take k).length = (C.take k).length := by rw [List.length_take, List.length_take, hA4.out, hB4.out]
              have := List.append_inj e hl2
              exact ⟨this.1, by simpa using this.2⟩
            · rintro ⟨e1, e2⟩; rw [e1, e2]
          rw [hbb]
          clear hy1 hy2 hbb
          cases bb with
          | false =>
            go_wp2_with fail
            refine wp_region_held_drew (S := fun X => X.cell? ⟨b', o' + k, none⟩ = some (.slice ax p'.length cx) ∧ X.cell? ⟨b'', o'' + k, none⟩ = some (.slice ay p''.length cy)) (by kernel_rfl) (show World.cell? _ _ = _ ∧ World.cell? _ _ = _ from ⟨hc1, hc2⟩) (fun hHeld => ?_)
            refine wpAnyH_take (i := 0) (oi := _) (v := ?_) rfl (by kernel_rfl) (by kernel_rfl) (by kernel_rfl) (fun _ _ _ h => h) (Or.inl ⟨by rfl, ?_⟩) (by assumption) ?_
            rotate_left
            · intro w hSw
              (try dsimp only at hSw)
              go_simp
              try with_reducible rfl
            try simp only [Act.put, List.getElem_toArray, List.getElem_cons_zero, List.getElem_cons_succ, List.setIfInBounds_toArray, List.set_cons_zero, List.set_cons_succ]
            refine wpAnyH_take (i := 1) (oi := _) (v := ?_) rfl (by kernel_rfl) (by kernel_rfl) (by kernel_rfl) (fun _ _ _ h => h) (Or.inl ⟨by rfl, ?_⟩) (by assumption) ?_
            rotate_left
            · intro w hSw
              (try dsimp only at hSw)
              go_simp
              try with_reducible rfl
            try simp only [Act.put, List.getElem_toArray, List.getElem_cons_zero, List.getElem_cons_succ, List.setIfInBounds_toArray, List.set_cons_zero, List.set_cons_succ]
            refine wpAnyH_take (i := 2) (oi := _) (v := undef) rfl (by kernel_rfl) (by kernel_rfl) (by kernel_rfl) (fun _ _ _ h => h) (Or.inr ⟨by rfl, rfl⟩) (by assumption) ?_
            try simp only [Act.put, List.getElem_toArray, List.getElem_cons_zero, List.getElem_cons_succ, List.setIfInBounds_toArray, List.set_cons_zero, List.set_cons_succ]
            refine wpAnyH_take (i := 3) (oi := _) (v := undef) rfl (by kernel_rfl) (by kernel_rfl) (by kernel_rfl) (fun _ _ _ h => h) (Or.inr ⟨by rfl, rfl⟩) (by assumption) ?_
            try simp only [Act.put, List.getElem_toArray, List.getElem_cons_zero, List.getElem_cons_succ, List.setIfInBounds_toArray, List.set_cons_zero, List.set_cons_succ]
            refine wpAnyH_take (i := 6) (oi := _) (v := undef) rfl (by kernel_rfl) (by kernel_rfl) (by kernel_rfl) (fun _ _ _ h => h) (Or.inr ⟨by rfl, rfl⟩) (by assumption) ?_
            try simp only [Act.put, List.getElem_toArray, List.getElem_cons_zero, List.getElem_cons_succ, List.setIfInBounds_toArray, List.set_cons_zero, List.set_cons_succ]
            refine wpAnyH_take (i := 7) (oi := _) (v := undef) rfl (by kernel_rfl) (by kernel_rfl) (by kernel_rfl) (fun _ _ _ h => h) (Or.inr ⟨by rfl, rfl⟩) (by assumption) ?_
            try simp only [Act.put, List.getElem_toArray, List.getElem_cons_zero, List.getElem_cons_succ, List.setIfInBounds_toArray, List.set_cons_zero, List.set_cons_succ]
            refine wpAnyH_take (i := 4) (oi := _) (v := undef) rfl (by kernel_rfl) (by kernel_rfl) (by kernel_rfl) (fun _ _ _ h => h) (Or.inr ⟨by rfl, rfl⟩) (by assumption) ?_
            try simp only [Act.put, List.getElem_toArray, List.getElem_cons_zero, List.getElem_cons_succ, List.setIfInBounds_toArray, List.set_cons_zero, List.set_cons_succ]
            refine wpAnyH_take (i := 8) (oi := _) (v := undef) rfl (by kernel_rfl) (by kernel_rfl) (by kernel_rfl) (fun _ _ _ h => h) (Or.inr ⟨by rfl, rfl⟩) (by assumption) ?_
            try simp only [Act.put, List.getElem_toArray, List.getElem_cons_zero, List.getElem_cons_succ, List.setIfInBounds_toArray, List.set_cons_zero, List.set_cons_succ]
            refine wpAnyH_take (i := 5) (oi := _) (v := undef) rfl (by kernel_rfl) (by kernel_rfl) (by kernel_rfl) (fun _ _ _ h => h) (Or.inr ⟨by rfl, rfl⟩) (by assumption) ?_
            try simp only [Act.put, List.getElem_toArray, List.getElem_cons_zero, List.getElem_cons_succ, List.setIfInBounds_toArray, List.set_cons_zero, List.set_cons_succ]
            refine wpAnyH_take (i := 9) (oi := _) (v := undef) rfl (by kernel_rfl) (by kernel_rfl) (by kernel_rfl) (fun _ _ _ h => h) (Or.inr ⟨by rfl, rfl⟩) (by assumption) ?_
            try simp only [Act.put, List.getElem_toArray, List.getElem_cons_zero, List.getElem_cons_succ, List.setIfInBounds_toArray, List.set_cons_zero, List.set_cons_succ]
            refine wpAnyH_take (i := 10) (oi := _) (v := undef) rfl (by kernel_rfl) (by kernel_rfl) (by kernel_rfl) (fun _ _ _ h => h) (Or.inr ⟨by rfl, rfl⟩) (by assumption) ?_
            try simp only [Act.put, List.getElem_toArray, List.getElem_cons_zero, List.getElem_cons_succ, List.setIfInBounds_toArray, List.set_cons_zero, List.set_cons_succ]
            refine wpAnyH_take (i := 11) (oi := _) (v := ?_) rfl (by kernel_rfl) (by kernel_rfl) (by kernel_rfl) (fun _ _ _ h => h) (Or.inl ⟨by rfl, ?_⟩) (by assumption) ?_
            rotate_left
            · intro w hSw
              (try dsimp only at hSw)
              go_simp
              try with_reducible rfl
            try simp only [Act.put, List.getElem_toArray, List.getElem_cons_zero, List.getElem_cons_succ, List.setIfInBounds_toArray, List.set_cons_zero, List.set_cons_succ]
            refine wpAnyH_take (i := 12) (oi := _) (v := ?_) rfl (by kernel_rfl) (by kernel_rfl) (by kernel_rfl) (fun _ _ _ h => h) (Or.inl ⟨by rfl, ?_⟩) (by assumption) ?_
            rotate_left
            · intro w hSw
              (try dsimp only at hSw)
              go_simp
              try with_reducible rfl
            try simp only [Act.put, List.getElem_toArray, List.getElem_cons_zero, List.getElem_cons_succ, List.setIfInBounds_toArray, List.set_cons_zero, List.set_cons_succ]
            refine wpAnyH_done (by kernel_rfl) ?_ _
            go_wp2
            go_roundw
            case rel => exact ⟨k + 1, by omega, by go_num, by rw [HST.out]; rfl, by first | exact B | exact belDr B⟩
            case measure => simp [intOf]; omega
          | true =>
            go_wp2_with fail
            refine wp_region_held_drew (S := fun X => X.cell? ⟨b', o' + k, none⟩ = some (.slice ax p'.length cx) ∧ X.cell? ⟨b'', o'' + k, none⟩ = some (.slice ay p''.length cy)) (by kernel_rfl) (show World.cell? _ _ = _ ∧ World.cell? _ _ = _ from ⟨hc1, hc2⟩) (fun hHeld => ?_)
            refine wpAnyH_take (i := 0) (oi := _) (v := ?_) rfl (by kernel_rfl) (by kernel_rfl) (by kernel_rfl) (fun _ _ _ h => h) (Or.inl ⟨by rfl, ?_⟩) (by assumption) ?_
            rotate_left
            · intro w hSw
              (try dsimp only at hSw)
              go_simp
              try with_reducible rfl
            try simp only [Act.put, List.getElem_toArray, List.getElem_cons_zero, List.getElem_cons_succ, List.setIfInBounds_toArray, List.set_cons_zero, List.set_cons_succ]
            refine wpAnyH_take (i := 1) (oi := _) (v := ?_) rfl (by kernel_rfl) (by kernel_rfl) (by kernel_rfl) (fun _ _ _ h => h) (Or.inl ⟨by rfl, ?_⟩) (by assumption) ?_
            rotate_left
            · intro w hSw
              (try dsimp only at hSw)
              go_simp
              try with_reducible rfl
            try simp only [Act.put, List.getElem_toArray, List.getElem_cons_zero, List.getElem_cons_succ, List.setIfInBounds_toArray, List.set_cons_zero, List.set_cons_succ]
            refine wpAnyH_take (i := 2) (oi := _) (v := ?_) rfl (by kernel_rfl) (by kernel_rfl) (by kernel_rfl) (fun _ _ _ h => h) (Or.inl ⟨by rfl, ?_⟩) (by assumption) ?_
            rotate_left
            · intro w hSw
              (try dsimp only at hSw)
              go_simp
              try with_reducible rfl
            try simp only [Act.put, List.getElem_toArray, List.getElem_cons_zero, List.getElem_cons_succ, List.setIfInBounds_toArray, List.set_cons_zero, List.set_cons_succ]
            refine wpAnyH_take (i := 3) (oi := _) (v := ?_) rfl (by kernel_rfl) (by kernel_rfl) (by kernel_rfl) (fun _ _ _ h => h) (Or.inl ⟨by rfl, ?_⟩) (by assumption) ?_
            rotate_left
            · intro w hSw
              (try dsimp only at hSw)
              go_simp
              try with_reducible rfl
            try simp only [Act.put, List.getElem_toArray, List.getElem_cons_zero, List.getElem_cons_succ, List.setIfInBounds_toArray, List.set_cons_zero, List.set_cons_succ]
            refine wpAnyH_take (i := 6) (oi := _) (v := ?_) rfl (by kernel_rfl) (by kernel_rfl) (by kernel_rfl) (fun _ _ _ h => h) (Or.inl ⟨by rfl, ?_⟩) (by assumption) ?_
            rotate_left
            · intro w hSw
              (try dsimp only at hSw)
              go_simp
              try with_reducible rfl
            try simp only [Act.put, List.getElem_toArray, List.getElem_cons_zero, List.getElem_cons_succ, List.setIfInBounds_toArray, List.set_cons_zero, List.set_cons_succ]
            refine wpAnyH_take (i := 7) (oi := _) (v := ?_) rfl (by kernel_rfl) (by kernel_rfl) (by kernel_rfl) (fun _ _ _ h => h) (Or.inl ⟨by rfl, ?_⟩) (by assumption) ?_
            rotate_left
            · intro w hSw
              (try dsimp only at hSw)
              go_simp
              try with_reducible rfl
            try simp only [Act.put, List.getElem_toArray, List.getElem_cons_zero, List.getElem_cons_succ, List.setIfInBounds_toArray, List.set_cons_zero, List.set_cons_succ]
            refine wpAnyH_take (i := 4) (oi := _) (v := ?_) rfl (by kernel_rfl) (by kernel_rfl) (by kernel_rfl) (fun _ _ _ h => h) (Or.inl ⟨by rfl, ?_⟩) (by assumption) ?_
            rotate_left
            · intro w hSw
              (try dsimp only at hSw)
              go_simp
              try with_reducible rfl
            try simp only [Act.put, List.getElem_toArray, List.getElem_cons_zero, List.getElem_cons_succ, List.setIfInBounds_toArray, List.set_cons_zero, List.set_cons_succ]
            refine wpAnyH_take (i := 8) (oi := _) (v := ?_) rfl (by kernel_rfl) (by kernel_rfl) (by kernel_rfl) (fun _ _ _ h => h) (Or.inl ⟨by rfl, ?_⟩) (by assumption) ?_
            rotate_left
            · intro w hSw
              (try dsimp only at hSw)
              go_simp
              try with_reducible rfl
            try simp only [Act.put, List.getElem_toArray, List.getElem_cons_zero, List.getElem_cons_succ, List.setIfInBounds_toArray, List.set_cons_zero, List.set_cons_succ]
            refine wpAnyH_take (i := 5) (oi := _) (v := ?_) rfl (by kernel_rfl) (by kernel_rfl) (by kernel_rfl) (fun _ _ _ h => h) (Or.inl ⟨by rfl, ?_⟩) (by assumption) ?_
            rotate_left
            · intro w hSw
              (try dsimp only at hSw)
              go_simp
              try with_reducible rfl
            try simp only [Act.put, List.getElem_toArray, List.getElem_cons_zero, List.getElem_cons_succ, List.setIfInBounds_toArray, List.set_cons_zero, List.set_cons_succ]
            refine wpAnyH_take (i := 9) (oi := _) (v := ?_) rfl (by kernel_rfl) (by kernel_rfl) (by kernel_rfl) (fun _ _ _ h => h) (Or.inl ⟨by rfl, ?_⟩) (by assumption) ?_
            rotate_left
            · intro w hSw
              (try dsimp only at hSw)
              go_simp
              try with_reducible rfl
            try simp only [Act.put, List.getElem_toArray, List.getElem_cons_zero, List.getElem_cons_succ, List.setIfInBounds_toArray, List.set_cons_zero, List.set_cons_succ]
            refine wpAnyH_ready (rs := [10]) (by kernel_rfl) (by simp) ?_
            refine AllReadyH.cons (o := _) rfl (fun K hK => ?_) AllReadyH.nil
            rw [if_pos (by rfl)]
            go_simp
            refine Calls.mono (same_any _ _ p' p'' _ (by first | exact HY1.out | exact HY1.out.drew) (by first | exact HY2.out | exact HY2.out.drew)) ?_
            rintro e w6 ⟨rfl, d6⟩
            have B6 : Below w4.heap.size w4 w6 := belT (by first | exact B | exact belDr B) (d6.below _)
            try go_simp
            refine hK.out _ _ (show World.cell? _ _ = _ ∧ World.cell? _ _ = _ from ⟨cell_fr hc1 (Fr.of_below (S := fun _ => False) (belT (by first | exact belR _ | exact belDr (belR _)) (d6.below _))) id, cell_fr hc2 (Fr.of_below (S := fun _ => False) (belT (by first | exact belR _ | exact belDr (belR _)) (d6.below _))) id⟩) (fun hHeld => ?_)
            clear hK K
            try simp only [Act.put, List.getElem_toArray, List.getElem_cons_zero, List.getElem_cons_succ, List.setIfInBounds_toArray, List.set_cons_zero, List.set_cons_succ]
            refine wpAnyH_take (i := 11) (oi := _) (v := ?_) rfl (by kernel_rfl) (by kernel_rfl) (by kernel_rfl) (fun _ _ _ h => h) (Or.inl ⟨by rfl, ?_⟩) (by assumption) ?_
            rotate_left
            · intro w hSw
              (try dsimp only at hSw)
              go_simp
              try with_reducible rfl
            try simp only [Act.put, List.getElem_toArray, List.getElem_cons_zero, List.getElem_cons_succ, List.setIfInBounds_toArray, List.set_cons_zero, List.set_cons_succ]
            refine wpAnyH_take (i := 12) (oi := _) (v := ?_) rfl (by kernel_rfl) (by kernel_rfl) (by kernel_rfl) (fun _ _ _ h => h) (Or.inl ⟨by rfl, ?_⟩) (by assumption) ?_
            rotate_left
            · intro w hSw
              (try dsimp only at hSw)
              go_simp
              try with_reducible rfl
            try simp only [Act.put, List.getElem_toArray, List.getElem_cons_zero, List.getElem_cons_succ, List.setIfInBounds_toArray, List.set_cons_zero, List.set_cons_succ]
            refine wpAnyH_done (by kernel_rfl) ?_ _
            go_wp2
            go_roundw
            case rel => exact ⟨k + 1, by omega, by go_num, by rw [HST.out]; rfl, B6⟩
            case measure => simp [intOf]; omega
        · have hk4 : k = 4 := by omega
          have HFIN : Hid (decide (A.take k = C.take k) = rsame s l t m) := by
            show _ = _
            rw [← HAB.out, List.take_of_length_le (by rw [hA4.out]; omega), List.take_of_length_le (by rw [hB4.out]; omega)]
          rw [HFIN.out]
          subst hk4
          obtain ⟨sb, hsb⟩ : ∃ sb, rsame s l t m = sb := ⟨_, rfl⟩
          have HSB := Lib.hid hsb
          rw [hsb]
          clear hsb HFIN hlt
          have B4 := belT b3 (belT b4 B)
          obtain ⟨⟨x0, x1⟩, x2, x3⟩ := HK.out _ B4
          go_wp2_with fail
          refine Calls.mono (rsame_any s t _ _ l m _ (HI.out.up (belT B0 B4)) (HJ.out.up (belT B0 B4)) hs ht) ?_
          rw [HSB.out]
          rintro e w5 ⟨rfl, b5⟩
          have B5 := belT B4 b5
          have hnn : (sb != sb) = false := by cases sb <;> rfl
          clear x0 x1 x2 x3
          obtain ⟨rb, ro, _, _, rfl, _⟩ := O3.out.get (k := 0) (by rw [hA4.out]; decide)
          have B45 : Below w4.heap.size w4 w5 := belT B b5
          go_wp2_with fail
          go_loopw [88] (fun i X => ∃ (k : Nat) (ls : List (List Nat)), k ≤ 3 ∧ i = .int .i64 k ∧ Hid (ls.length = 4 ∧ ∀ p ∈ ls, p.length = 32) ∧ Hid (OwnD X w0.heap.size (.slice (some ⟨rb, ro, none⟩) 4 c3) ls (fun _ => False)) ∧ Below w0.heap.size w0 X) (fun i _ => 3 - (intOf i).toNat)
          case atStart => exact ⟨0, A, by omega, rfl, Lib.hid ⟨hA4.out, hA32.out⟩, Lib.hid (O3.out.up B45), B5⟩
          case round =>
            clear B B4 B45 b5 B5
            obtain ⟨k, ls, hk, rfl, HLS, HO, BX⟩ := hrel
            by_cases hlt : k < 3
            · obtain ⟨rb', ro', c, p, he, hcr, hp, hoc, hset, hne1, hlt1, _⟩ := HO.out.get (k := k + 1) (by rw [HLS.out.1]; omega)
              cases he
              have hp32 : p.length = 32 := HLS.out.2 p (List.mem_of_getElem? hp.out)
              have hset := Lib.hid hset
              obtain ⟨gr, cr, rfl, hgr1, hgr2, hgr3, hgr4⟩ := own_shape (n := 32) (by have := hoc.2; rwa [hp32] at this) (by decide)
              obtain ⟨x0, hx0⟩ : ∃ x0, p[0]? = some x0 := ⟨_, List.getElem?_eq_getElem (by omega)⟩
              obtain ⟨hx8, hca, hfa⟩ := hoc.cells hx0
              have hbx : bits .xor .u8 (x0 : Int) 1 = ((x0 ^^^ 1 : Nat) : Int) := by have := bx8 (a := x0) (b := 1) hx8 (by decide); simpa using this
              have hy8 : x0 ^^^ 1 < 256 := xor8 hx8 (by decide)
              have hst := Lib.hid (hoc.store 0 (x0 ^^^ 1) hy8).1
              have hcr' : wr.cell? ⟨rb, ro + (1 + k), none⟩ = some (.slice (some ⟨gr, 0, none⟩) 32 cr) := by rw [Nat.add_comm 1 k]; exact hcr
              have hk3 : (k : Int) < 3 := by omega
              have HBW : Hid (Below w0.heap.size w0 (wr.setCell ⟨gr, 0, none⟩ (.int .u8 ((x0 ^^^ 1 : Nat) : Int)))) := BX.setCell (by show w0.heap.size ≤ gr; exact hgr1) _
              have HP : Hid (p.length = 32) := hp32
              clear hoc hx0 hp32
              go_wp2_with fail
              go_roundw
              case rel =>
                refine ⟨k + 1, ls.set (k + 1) (p.set 0 (x0 ^^^ 1)), by omega, by go_num, Lib.hid ⟨by rw [List.length_set]; exact HLS.out.1, fun q hq => ?_⟩, Lib.hid (hset.out _ _ hst.out (grown_set _ _ _ _)), HBW.out⟩
                rcases List.mem_or_eq_of_mem_set hq with h | h
                · exact HLS.out.2 q h
                · rw [h, List.length_set]; exact HP.out
              case measure => simp [intOf]; omega
            · obtain ⟨⟨x0, x1⟩, x2, x3⟩ := HK.out _ BX
              go_wp2_with fail
              refine Calls.mono (rencode_ok s _ l _ (HI.out.up (belT B0 BX)) HOK.out) ?_
              rw [← HA.out]
              rintro e w6 ⟨v6, rfl, O6, b6⟩
              obtain ⟨a6, c6, e6, q6, _⟩ := O6.shape
              rw [hA4.out] at e6 q6
              subst e6
              have P6 := Lib.hid O6.parts
              have B6 := belT BX b6
              clear O6 x0 x1 x2 x3
              obtain ⟨⟨x0, x1⟩, x2, x3⟩ := HK.out _ B6
              go_wp2_with fail
              clear x0 x1 x2 x3
              go_loopw [123] (fun i X => ∃ k : Nat, k ≤ n ∧ i = .int .i64 k ∧ Below w6.heap.size w6 X) (fun i _ => n - (intOf i).toNat)
              case atStart => exact ⟨0, by omega, rfl, belR _⟩
              case round =>
                obtain ⟨k, hk, rfl, B⟩ := hrel
                obtain ⟨⟨x0, x1⟩, x2, x3⟩ := HK.out _ (belT B6 B)
                by_cases hlt : k < n
                · obtain ⟨b, off, x, ux, rfl, hbl, hx, hit⟩ := Items.get HI.out hlt
                  obtain ⟨e0, e1, e2, ex, _⟩ := hit.up (belT B0 (belT B6 B)) hbl
                  obtain ⟨b', o', c', p', rfl, hc1, hp1, hy1⟩ := (P6.out.up B).get (k := k + 1) (by rw [hA4.out]; have := ((rok_iff s l).1 HOK.out).2.1; rw [← HN.out] at this; omega)
                  have hpx : p' = x.b := by have := HAR.out k x hx.out; rw [hp1.out] at this; exact Option.some.inj this
                  subst hpx
                  have hk3 : (k : Int) < 3 := by have := ((rok_iff s l).1 HOK.out).2.1; rw [← HN.out] at this; omega
                  have hk0 : (0 : Int) ≤ (k : Int) := by omega
                  obtain ⟨j1, hj1⟩ : ∃ j1, j1 = k + 1 := ⟨_, rfl⟩
                  have hkw : IntKind.i64.wrap (1 + (k : Int)) = (j1 : Int) := by rw [IntKind.wrap_i64]; omega
                  have hj10 : (0 : Int) ≤ (j1 : Int) := by omega
                  have hj14 : (j1 : Int) < 4 := by omega
                  have hkn : (k : Int) < (n : Int) := by omega
                  rw [← hj1] at hc1
                  obtain ⟨ax, cx, rfl, _, _⟩ := hy1.shape
                  obtain ⟨ay, cy, rfl, _, _⟩ := ex.shape
                  obtain ⟨nb, hnb⟩ : ∃ nb, nb = x.b.length := ⟨_, rfl⟩
                  rw [← hnb] at hc1 e2 hy1 ex
                  have HY1 := Lib.hid hy1
                  have HEX := Lib.hid ex
                  have HJ1 := Lib.hid hj1
                  have HNB := Lib.hid hnb
                  clear hy1 ex hj1 hnb e0 e1 hit
                  go_wp2_with fail
                  refine wp_region_held_drew (S := fun X => X.cell? ⟨b', o' + j1, none⟩ = some (.slice ax nb cx) ∧ X.cell? ⟨w2.heap.size, 1, none⟩ = some (.slice (some ⟨b, off, none⟩) n cv) ∧ X.cell? ⟨b, off + k * 3 + 2, none⟩ = some (.slice ay nb cy)) (by kernel_rfl) (show World.cell? _ _ = _ ∧ World.cell? _ _ = _ ∧ World.cell? _ _ = _ from ⟨hc1, x1, e2⟩) (fun hHeld => ?_)
                  refine wpAnyH_take (i := 0) (oi := _) (v := ?_) rfl (by kernel_rfl) (by kernel_rfl) (by kernel_rfl) (fun _ _ _ h => h) (Or.inl ⟨by rfl, ?_⟩) (by assumption) ?_
                  rotate_left
                  · intro w hSw
                    (try dsimp only at hSw)
                    go_simp
                    try with_reducible rfl
                  try simp only [Act.put, List.getElem_toArray, List.getElem_cons_zero, List.getElem_cons_succ, List.setIfInBounds_toArray, List.set_cons_zero, List.set_cons_succ]
                  refine wpAnyH_take (i := 1) (oi := _) (v := ?_) rfl (by kernel_rfl) (by kernel_rfl) (by kernel_rfl) (fun _ _ _ h => h) (Or.inl ⟨by rfl, ?_⟩) (by assumption) ?_
                  rotate_left
                  · intro w hSw
                    (try dsimp only at hSw)
                    go_simp
                    try with_reducible rfl
                  try simp only [Act.put, List.getElem_toArray, List.getElem_cons_zero, List.getElem_cons_succ, List.setIfInBounds_toArray, List.set_cons_zero, List.set_cons_succ]
                  refine wpAnyH_take (i := 5) (oi := _) (v := ?_) rfl (by kernel_rfl) (by kernel_rfl) (by kernel_rfl) (fun _ _ _ h => h) (Or.inl ⟨by rfl, ?_⟩) (by assumption) ?_
                  rotate_left
                  · intro w hSw
                    (try dsimp only at hSw)
                    go_simp
                    try with_reducible rfl
                  try simp only [Act.put, List.getElem_toArray, List.getElem_cons_zero, List.getElem_cons_succ, List.setIfInBounds_toArray, List.set_cons_zero, List.set_cons_succ]
                  refine wpAnyH_take (i := 7) (oi := _) (v := ?_) rfl (by kernel_rfl) (by kernel_rfl) (by kernel_rfl) (fun _ _ _ h => h) (Or.inl ⟨by rfl, ?_⟩) (by assumption) ?_
                  rotate_left
                  · intro w hSw
                    (try dsimp only at hSw)
                    go_simp
                    try with_reducible rfl
                  try simp only [Act.put, List.getElem_toArray, List.getElem_cons_zero, List.getElem_cons_succ, List.setIfInBounds_toArray, List.set_cons_zero, List.set_cons_succ]
                  refine wpAnyH_take (i := 2) (oi := _) (v := ?_) rfl (by kernel_rfl) (by kernel_rfl) (by kernel_rfl) (fun _ _ _ h => h) (Or.inl ⟨by rfl, ?_⟩) (by assumption) ?_
                  rotate_left
                  · intro w hSw
                    (try dsimp only at hSw)
                    go_simp
                    try with_reducible rfl
                  try simp only [Act.put, List.getElem_toArray, List.getElem_cons_zero, List.getElem_cons_succ, List.setIfInBounds_toArray, List.set_cons_zero, List.set_cons_succ]
                  refine wpAnyH_take (i := 6) (oi := _) (v := ?_) rfl (by kernel_rfl) (by kernel_rfl) (by kernel_rfl) (fun _ _ _ h => h) (Or.inl ⟨by rfl, ?_⟩) (by assumption) ?_
                  rotate_left
                  · intro w hSw
                    (try dsimp only at hSw)
                    go_simp
                    try with_reducible rfl
                  try simp only [Act.put, List.getElem_toArray, List.getElem_cons_zero, List.getElem_cons_succ, List.setIfInBounds_toArray, List.set_cons_zero, List.set_cons_succ]
                  refine wpAnyH_take (i := 3) (oi := _) (v := ?_) rfl (by kernel_rfl) (by kernel_rfl) (by kernel_rfl) (fun _ _ _ h => h) (Or.inl ⟨by rfl, ?_⟩) (by assumption) ?_
                  rotate_left
                  · intro w hSw
                    (try dsimp only at hSw)
                    go_simp
                    try with_reducible rfl
                  try simp only [Act.put, List.getElem_toArray, List.getElem_cons_zero, List.getElem_cons_succ, List.setIfInBounds_toArray, List.set_cons_zero, List.set_cons_succ]
                  refine wpAnyH_take (i := 8) (oi := _) (v := ?_) rfl (by kernel_rfl) (by kernel_rfl) (by kernel_rfl) (fun _ _ _ h => h) (Or.inl ⟨by rfl, ?_⟩) (by assumption) ?_
                  rotate_left
                  · intro w hSw
                    (try dsimp only at hSw)
                    go_simp
                    try with_reducible rfl
                  try simp only [Act.put, List.getElem_toArray, List.getElem_cons_zero, List.getElem_cons_succ, List.setIfInBounds_toArray, List.set_cons_zero, List.set_cons_succ]
                  refine wpAnyH_take (i := 4) (oi := _) (v := ?_) rfl (by kernel_rfl) (by kernel_rfl) (by kernel_rfl) (fun _ _ _ h => h) (Or.inl ⟨by rfl, ?_⟩) (by assumption) ?_
                  rotate_left
                  · intro w hSw
                    (try dsimp only at hSw)
                    go_simp
                    try with_reducible rfl
                  try simp only [Act.put, List.getElem_toArray, List.getElem_cons_zero, List.getElem_cons_succ, List.setIfInBounds_toArray, List.set_cons_zero, List.set_cons_succ]
                  refine wpAnyH_take (i := 9) (oi := _) (v := ?_) rfl (by kernel_rfl) (by kernel_rfl) (by kernel_rfl) (fun _ _ _ h => h) (Or.inl ⟨by rfl, ?_⟩) (by assumption) ?_
                  rotate_left
                  · intro w hSw
                    (try dsimp only at hSw)
                    go_simp
                    try with_reducible rfl
                  try simp only [Act.put, List.getElem_toArray, List.getElem_cons_zero, List.getElem_cons_succ, List.setIfInBounds_toArray, List.set_cons_zero, List.set_cons_succ]
                  refine wpAnyH_take (i := 10) (oi := _) (v := ?_) rfl (by kernel_rfl) (by kernel_rfl) (by kernel_rfl) (fun _ _ _ h => h) (Or.inl ⟨by rfl, ?_⟩) (by assumption) ?_
                  rotate_left
                  · intro w hSw
                    (try dsimp only at hSw)
                    go_simp
                    try with_reducible rfl
                  try simp only [Act.put, List.getElem_toArray, List.getElem_cons_zero, List.getElem_cons_succ, List.setIfInBounds_toArray, List.set_cons_zero, List.set_cons_succ]
                  refine wpAnyH_ready (rs := [11]) (by kernel_rfl) (by simp) ?_
                  refine AllReadyH.cons (o := _) rfl (fun K hK => ?_) AllReadyH.nil
                  go_simp
                  refine Calls.mono (same_any _ _ x.b x.b _ (by first | exact HY1.out | exact HY1.out.drew) (by first | exact HEX.out | exact HEX.out.drew)) ?_
                  rw [decide_eq_true rfl]
                  rintro e w7 ⟨rfl, d7⟩
                  have B7 : Below w6.heap.size w6 w7 := belT (by first | exact B | exact belDr B) (d7.below _)
                  try go_simp
                  refine hK.out _ _ (show World.cell? _ _ = _ ∧ World.cell? _ _ = _ ∧ World.cell? _ _ = _ from ⟨cell_fr hc1 (Fr.of_below (S := fun _ => False) (belT (by first | exact belR _ | exact belDr (belR _)) (d7.below _))) id, cell_fr x1 (Fr.of_below (S := fun _ => False) (belT (by first | exact belR _ | exact belDr (belR _)) (d7.below _))) id, cell_fr e2 (Fr.of_below (S := fun _ => False) (belT (by first | exact belR _ | exact belDr (belR _)) (d7.below _))) id⟩) (fun hHeld => ?_)
                  clear hK K
                  try simp only [Act.put, List.getElem_toArray, List.getElem_cons_zero, List.getElem_cons_succ, List.setIfInBounds_toArray, List.set_cons_zero, List.set_cons_succ]
                  refine wpAnyH_take (i := 12) (oi := _) (v := ?_) rfl (by kernel_rfl) (by kernel_rfl) (by kernel_rfl) (fun _ _ _ h => h) (Or.inl ⟨by rfl, ?_⟩) (by assumption) ?_
                  rotate_left
                  · intro w hSw
                    (try dsimp only at hSw)
                    go_simp
                    try with_reducible rfl
                  try simp only [Act.put, List.getElem_toArray, List.getElem_cons_zero, List.getElem_cons_succ, List.setIfInBounds_toArray, List.set_cons_zero, List.set_cons_succ]
                  refine wpAnyH_done (by kernel_rfl) ?_ _
                  go_wp2
                  go_roundw
                  case rel => exact ⟨k + 1, by omega, by go_num, B7⟩
                  case measure => simp [intOf]; omega
                · clear x0 x1 x2 x3
                  go_wp2_with fail
                  refine Calls.mono (wakes11_any _) ?_
                  rintro e w7 ⟨rfl, b7⟩
                  go_wp2_with fail
                  go_ret
                  exact ⟨rfl, belT B01 (belT B6 (belT B b7))⟩
end Go.Proofs.Ytgnnkglmlopldaa
