/- The walk of wattlelaw11.Of: it answers some record of the machine's numbers, of at most six items, in blocks of its own. -/
import Derived.Test.YtenjpldinnbcbaaRecP
import Derived.Deep.CutRange
import Derived.Deep.CutBlock
namespace Go.Proofs.Ytenjpldinnbcbaa
open Go.RowKit C
set_option linter.unusedVariables false
set_option linter.unusedSimpArgs false
set_option maxRecDepth 100000
set_option maxHeartbeats 8000000

theorem of11_any (seq how : Int) (lv : Value) (l : List Int) (w : World) (h0 : i64b seq) (h6 : i64b how) (hl : Ints w lv l) :
    Calls Try.prog 32 #[.int .i64 seq, lv, .int .i64 how] w (SomeRec2 seq how w) := by
  have HH := Lib.hid (tdiv_in h6)
  have HH6 := Lib.hid h6
  have H0 := Lib.hid h0
  have HL := Lib.hid hl
  obtain ⟨i0, hi, hz0, hz1, hz2⟩ := info_parts item_info
  obtain ⟨q1, q2⟩ := h6
  obtain ⟨a1, a2⟩ := h0
  obtain ⟨ao, cap, rfl, hc1, hc2, _⟩ := hl
  unfold maxLen at hc2
  obtain ⟨n, hn⟩ : ∃ n, n = l.length := ⟨_, rfl⟩
  have HN := Lib.hid hn
  rw [← hn] at hc1 HL ⊢
  clear hn
  obtain ⟨k1, ek1, hk1, W1⟩ := within_nat seq 2147483647 (by decide) (by decide) H0.out
  have EK1 := Lib.hid ek1
  clear ek1
  obtain ⟨k6, ek6, hk6, W6⟩ := within_nat (how.tdiv 4) 20 (by decide) (by decide) (HH.out 4 (by decide))
  have EK6 := Lib.hid ek6
  clear ek6
  go_enter Try.func32, Try.ntmps32
  go_wp2_with fail
  refine Calls.mono (W1.out _) ?_
  rintro e wa ⟨rfl, rfl⟩
  obtain ⟨wB, hwB⟩ : ∃ wB, wB = (w.alloc (.cells #[.int .i64 0, .slice none 0 0] 59)).alloc (.cells #[.int .i64 (1 + (k1 : Int)), .slice none 0 0] 59) := ⟨_, rfl⟩
  have RB : RS w wB (1 + (k1 : Int)) (.slice none 0 0) [] := by
    rw [hwB]
    have b1 := Box.new (w.alloc (.cells #[.int .i64 0, .slice none 0 0] 59)) [.int .i64 (1 + (k1 : Int)), .slice none 0 0] 59
    have b2 := (Box.new w [.int .i64 0, .slice none 0 0] 59).fr (Fr.alloc (S := fun _ => False) _ (.cells #[.int .i64 (1 + (k1 : Int)), .slice none 0 0] 59)) id
    simp only [World.size_alloc] at b1
    exact ⟨b1, b2, OwnI.nil _ _ _, (fun p hp => by cases hp), belA2 (belR _), by simp⟩
  have HWB := Lib.hid hwB
  clear hwB
  go_upto_block 0 with (fail)
  go_cut [9] from 16 (fun i W => Hid (OfS3 (k1 : Int) w W))
  case first =>
    go_wp2_with fail
    go_loopw [9] (fun i W => ∃ (m j : Nat) (s : Int) (v : Value) (T : List (RI × Value)), m ≤ 3 ∧ Hid (j = 2 * m) ∧ Hid (T.length = m) ∧ j ≤ 6 ∧ i = .int .i64 (j : Int) ∧ Hid (SQ (k1 : Int) s) ∧ Hid (RS w W s v T)) (fun i _ => 8 - (intOf i).toNat)
    case atStart =>
      rw [← HWB.out]
      exact ⟨0, 0, 1 + (k1 : Int), _, [], by omega, Lib.hid rfl, Lib.hid rfl, by omega, rfl, Lib.hid (show SQ _ _ from ⟨⟨by omega, by omega⟩, rfl⟩), Lib.hid RB⟩
    case round =>
      clear RB HWB
      obtain ⟨m, j, s, v, T, hm, hj, hT, hj6, rfl, hs, HR⟩ := hrel
      by_cases hlt : j + 1 < n
      · have Bw : Below w.heap.size w wr := HR.out.bel
        have hltI : (j : Int) + 1 < (n : Int) := by omega
        have HLT := Lib.hid hlt
        clear hlt
        go_wp2_with fail
        refine Calls.mono (within_ex how 4 _ (by decide) (by decide) HH6.out) ?_
        rintro e wa ⟨k2, rfl, hk2, rfl⟩
        by_cases hjk : j < 2 * k2
        · have hjkI : (j : Int) < 2 * (k2 : Int) := by omega
          have hm2 : m + 1 ≤ 3 := by have := hj.out; omega
          clear hjk
          obtain ⟨lb, lo, x0, rfl, hx0, _, hx0b⟩ := Ints.cellAt HL.out (k := j) (by have := HLT.out; rw [← HN.out]; omega)
          obtain ⟨lb', lo', x1, he, hx1, _, hx1b⟩ := Ints.cellAt HL.out (k := j + 1) (by have := HLT.out; rw [← HN.out]; omega)
          cases he
          have hlbw : lb < w.heap.size := World.block_lt_of_cell? w _ hx0
          have HLC : Hid (∀ W, Below w.heap.size w W → W.cell? ⟨lb, lo + j, none⟩ = some (.int .i64 x0) ∧ W.cell? ⟨lb, lo + (j + 1), none⟩ = some (.int .i64 x1)) := fun W hW => ⟨(cell_fr hx0 (Fr.of_below (S := fun _ => False) hW) id), (cell_fr hx1 (Fr.of_below (S := fun _ => False) hW) id)⟩
          have HB1 : Hid (∀ W, Below wr.heap.size wr W → W.cell? ⟨w.heap.size + 1, 1, none⟩ = some v) := fun W hW => (HR.out.below hW).box.two.1.2
          have HX0 := Lib.hid hx0b
          have HX1 := Lib.hid hx1b
          obtain ⟨hx0a, hx0c⟩ := hx0b
          obtain ⟨hx1a, hx1c⟩ := hx1b
          have hw8 : IntKind.i64.wrap (x0.tdiv 8) = x0.tdiv 8 := by rw [IntKind.wrap_i64]; have := tdiv_in HX0.out 8 (by decide); unfold i64b at this; omega
          have hx8 := Lib.hid (tdiv_in HX0.out 8 (by decide))
          have hj0 : (0 : Int) ≤ (j : Int) := by omega
          have hjn : (j : Int) < (n : Int) := by omega
          obtain ⟨j1, hj1⟩ : ∃ j1, j1 = j + 1 := ⟨_, rfl⟩
          have hjw : IntKind.i64.wrap ((j : Int) + 1) = (j1 : Int) := by rw [IntKind.wrap_i64]; omega
          have hj1n : (j1 : Int) < (n : Int) := by omega
          have hj10 : (0 : Int) ≤ (j1 : Int) := by omega
          rw [← hj1] at HLC
          have HJ1 := Lib.hid hj1
          clear hj1
          clear hx0 hx1
          go_wp2_with fail
          refine wp_region_held_drew (S := fun W => W.cell? ⟨lb, lo + j, none⟩ = some (.int .i64 x0) ∧ W.cell? ⟨lb, lo + j1, none⟩ = some (.int .i64 x1)) (by kernel_rfl) (show World.cell? _ _ = _ ∧ World.cell? _ _ = _ from HLC.out _ (belT Bw (by iterate 8 try (first | assumption | exact belR _ | apply belDr | apply belAlloc)))) (fun hHeld => ?_)
          refine wpAnyH_take (i := 0) (oi := _) (v := ?_) rfl (by kernel_rfl) (by kernel_rfl) (by kernel_rfl) (fun _ _ _ h => h) (Or.inl ⟨by rfl, ?_⟩) (by assumption) ?_
          rotate_left
          · intro w hSw
            (try dsimp only at hSw)
            go_simp
            try with_reducible rfl
          try simp only [Act.put, List.getElem_toArray, List.getElem_cons_zero, List.getElem_cons_succ, List.setIfInBounds_toArray, List.set_cons_zero, List.set_cons_succ]
          refine wpAnyH_take (i := 2) (oi := _) (v := ?_) rfl (by kernel_rfl) (by kernel_rfl) (by kernel_rfl) (fun _ _ _ h => h) (Or.inl ⟨by rfl, ?_⟩) (by assumption) ?_
          rotate_left
          · intro w hSw
            (try dsimp only at hSw)
            go_simp
            try with_reducible rfl
          try simp only [Act.put, List.getElem_toArray, List.getElem_cons_zero, List.getElem_cons_succ, List.setIfInBounds_toArray, List.set_cons_zero, List.set_cons_succ]
          refine wpAnyH_take (i := 3) (oi := _) (v := ?_) rfl (by kernel_rfl) (by kernel_rfl) (by kernel_rfl) (fun _ _ _ h => h) (Or.inl ⟨by rfl, ?_⟩) (by assumption) ?_
          rotate_left
          · intro w hSw
            (try dsimp only at hSw)
            go_simp
            try with_reducible rfl
          try simp only [Act.put, List.getElem_toArray, List.getElem_cons_zero, List.getElem_cons_succ, List.setIfInBounds_toArray, List.set_cons_zero, List.set_cons_succ]
          refine wpAnyH_take (i := 4) (oi := _) (v := ?_) rfl (by kernel_rfl) (by kernel_rfl) (by kernel_rfl) (fun _ _ _ h => h) (Or.inl ⟨by rfl, ?_⟩) (by assumption) ?_
          rotate_left
          · intro w hSw
            (try dsimp only at hSw)
            go_simp
            try with_reducible rfl
          try simp only [Act.put, List.getElem_toArray, List.getElem_cons_zero, List.getElem_cons_succ, List.setIfInBounds_toArray, List.set_cons_zero, List.set_cons_succ]
          refine wpAnyH_take (i := 8) (oi := _) (v := ?_) rfl (by kernel_rfl) (by kernel_rfl) (by kernel_rfl) (fun _ _ _ h => h) (Or.inl ⟨by rfl, ?_⟩) (by assumption) ?_
          rotate_left
          · intro w hSw
            (try dsimp only at hSw)
            go_simp
            try with_reducible rfl
          try simp only [Act.put, List.getElem_toArray, List.getElem_cons_zero, List.getElem_cons_succ, List.setIfInBounds_toArray, List.set_cons_zero, List.set_cons_succ]
          refine wpAnyH_take (i := 9) (oi := _) (v := ?_) rfl (by kernel_rfl) (by kernel_rfl) (by kernel_rfl) (fun _ _ _ h => h) (Or.inl ⟨by rfl, ?_⟩) (by assumption) ?_
          rotate_left
          · intro w hSw
            (try dsimp only at hSw)
            go_simp
            try with_reducible rfl
          try simp only [Act.put, List.getElem_toArray, List.getElem_cons_zero, List.getElem_cons_succ, List.setIfInBounds_toArray, List.set_cons_zero, List.set_cons_succ]
          refine wpAnyH_take (i := 10) (oi := _) (v := ?_) rfl (by kernel_rfl) (by kernel_rfl) (by kernel_rfl) (fun _ _ _ h => h) (Or.inl ⟨by rfl, ?_⟩) (by assumption) ?_
          rotate_left
          · intro w hSw
            (try dsimp only at hSw)
            go_simp
            try with_reducible rfl
          try simp only [Act.put, List.getElem_toArray, List.getElem_cons_zero, List.getElem_cons_succ, List.setIfInBounds_toArray, List.set_cons_zero, List.set_cons_succ]
          refine wpAnyH_take (i := 16) (oi := _) (v := ?_) rfl (by kernel_rfl) (by kernel_rfl) (by kernel_rfl) (fun _ _ _ h => h) (Or.inl ⟨by rfl, ?_⟩) (by assumption) ?_
          rotate_left
          · intro w hSw
            (try dsimp only at hSw)
            go_simp
            try with_reducible rfl
          try simp only [Act.put, List.getElem_toArray, List.getElem_cons_zero, List.getElem_cons_succ, List.setIfInBounds_toArray, List.set_cons_zero, List.set_cons_succ]
          refine wpAnyH_take (i := 17) (oi := _) (v := ?_) rfl (by kernel_rfl) (by kernel_rfl) (by kernel_rfl) (fun _ _ _ h => h) (Or.inl ⟨by rfl, ?_⟩) (by assumption) ?_
          rotate_left
          · intro w hSw
            (try dsimp only at hSw)
            go_simp
            try with_reducible rfl
          try simp only [Act.put, List.getElem_toArray, List.getElem_cons_zero, List.getElem_cons_succ, List.setIfInBounds_toArray, List.set_cons_zero, List.set_cons_succ]
          refine wpAnyH_take (i := 5) (oi := _) (v := ?_) rfl (by kernel_rfl) (by kernel_rfl) (by kernel_rfl) (fun _ _ _ h => h) (Or.inl ⟨by rfl, ?_⟩) (by assumption) ?_
          rotate_left
          · intro w hSw
            (try dsimp only at hSw)
            go_simp
            try with_reducible rfl
          try simp only [Act.put, List.getElem_toArray, List.getElem_cons_zero, List.getElem_cons_succ, List.setIfInBounds_toArray, List.set_cons_zero, List.set_cons_succ]
          refine wpAnyH_take (i := 11) (oi := _) (v := ?_) rfl (by kernel_rfl) (by kernel_rfl) (by kernel_rfl) (fun _ _ _ h => h) (Or.inl ⟨by rfl, ?_⟩) (by assumption) ?_
          rotate_left
          · intro w hSw
            (try dsimp only at hSw)
            go_simp
            try with_reducible rfl
          try simp only [Act.put, List.getElem_toArray, List.getElem_cons_zero, List.getElem_cons_succ, List.setIfInBounds_toArray, List.set_cons_zero, List.set_cons_succ]
          refine wpAnyH_take (i := 18) (oi := _) (v := ?_) rfl (by kernel_rfl) (by kernel_rfl) (by kernel_rfl) (fun _ _ _ h => h) (Or.inl ⟨by rfl, ?_⟩) (by assumption) ?_
          rotate_left
          · intro w hSw
            (try dsimp only at hSw)
            go_simp
            try with_reducible rfl
          try simp only [Act.put, List.getElem_toArray, List.getElem_cons_zero, List.getElem_cons_succ, List.setIfInBounds_toArray, List.set_cons_zero, List.set_cons_succ]
          refine wpAnyH_take (i := 6) (oi := _) (v := ?_) rfl (by kernel_rfl) (by kernel_rfl) (by kernel_rfl) (fun _ _ _ h => h) (Or.inl ⟨by rfl, ?_⟩) (by assumption) ?_
          rotate_left
          · intro w hSw
            (try dsimp only at hSw)
            go_simp
            try with_reducible rfl
          try simp only [Act.put, List.getElem_toArray, List.getElem_cons_zero, List.getElem_cons_succ, List.setIfInBounds_toArray, List.set_cons_zero, List.set_cons_succ]
          refine wpAnyH_take (i := 12) (oi := _) (v := ?_) rfl (by kernel_rfl) (by kernel_rfl) (by kernel_rfl) (fun _ _ _ h => h) (Or.inl ⟨by rfl, ?_⟩) (by assumption) ?_
          rotate_left
          · intro w hSw
            (try dsimp only at hSw)
            go_simp
            try with_reducible rfl
          try simp only [Act.put, List.getElem_toArray, List.getElem_cons_zero, List.getElem_cons_succ, List.setIfInBounds_toArray, List.set_cons_zero, List.set_cons_succ]
          refine wpAnyH_take (i := 19) (oi := _) (v := ?_) rfl (by kernel_rfl) (by kernel_rfl) (by kernel_rfl) (fun _ _ _ h => h) (Or.inl ⟨by rfl, ?_⟩) (by assumption) ?_
          rotate_left
          · intro w hSw
            (try dsimp only at hSw)
            go_simp
            try with_reducible rfl
          try simp only [Act.put, List.getElem_toArray, List.getElem_cons_zero, List.getElem_cons_succ, List.setIfInBounds_toArray, List.set_cons_zero, List.set_cons_succ]
          refine wpAnyH_take (i := 13) (oi := _) (v := ?_) rfl (by kernel_rfl) (by kernel_rfl) (by kernel_rfl) (fun _ _ _ h => h) (Or.inl ⟨by rfl, ?_⟩) (by assumption) ?_
          rotate_left
          · intro w hSw
            (try dsimp only at hSw)
            go_simp
            try with_reducible rfl
          try simp only [Act.put, List.getElem_toArray, List.getElem_cons_zero, List.getElem_cons_succ, List.setIfInBounds_toArray, List.set_cons_zero, List.set_cons_succ]
          refine wpAnyH_take (i := 20) (oi := _) (v := ?_) rfl (by kernel_rfl) (by kernel_rfl) (by kernel_rfl) (fun _ _ _ h => h) (Or.inl ⟨by rfl, ?_⟩) (by assumption) ?_
          rotate_left
          · intro w hSw
            (try dsimp only at hSw)
            go_simp
            try with_reducible rfl
          try simp only [Act.put, List.getElem_toArray, List.getElem_cons_zero, List.getElem_cons_succ, List.setIfInBounds_toArray, List.set_cons_zero, List.set_cons_succ]
          refine wpAnyH_ready (rs := [1, 7]) (by kernel_rfl) (by simp) ?_
          refine AllReadyH.cons (o := _) rfl (fun K hK => ?_) (AllReadyH.cons (o := _) rfl (fun K hK => ?_) AllReadyH.nil)
          · have hcb := HB1.out wr (belR _)
            go_simp
            clear hcb
            refine hK.out _ _ (show World.cell? _ _ = _ ∧ World.cell? _ _ = _ from HLC.out _ (belT Bw (by iterate 8 try (first | assumption | exact belR _ | apply belDr | apply belAlloc)))) (fun hHeld => ?_)
            clear hK K
            try simp only [Act.put, List.getElem_toArray, List.getElem_cons_zero, List.getElem_cons_succ, List.setIfInBounds_toArray, List.set_cons_zero, List.set_cons_succ]
            refine wpAnyH_ready (rs := [7]) (by kernel_rfl) (by simp) ?_
            refine AllReadyH.cons (o := _) rfl (fun K hK => ?_) AllReadyH.nil
            go_simp
            refine Calls.mono (within_ex x0 8 _ (by decide) (by decide) HX0.out) ?_
            rintro e wa ⟨k3, rfl, hk3, rfl⟩
            try go_simp
            refine hK.out _ _ (show World.cell? _ _ = _ ∧ World.cell? _ _ = _ from HLC.out _ (belT Bw (by iterate 8 try (first | assumption | exact belR _ | apply belDr | apply belAlloc)))) (fun hHeld => ?_)
            clear hK K
            try simp only [Act.put, List.getElem_toArray, List.getElem_cons_zero, List.getElem_cons_succ, List.setIfInBounds_toArray, List.set_cons_zero, List.set_cons_succ]
            refine wpAnyH_ready (rs := [14]) (by kernel_rfl) (by simp) ?_
            refine AllReadyH.cons (o := _) rfl (fun K hK => ?_) AllReadyH.nil
            go_simp
            refine Calls.mono (within_ex (x0.tdiv 8) 16 _ (by decide) (by decide) hx8.out) ?_
            rintro e wa ⟨k4, rfl, hk4, rfl⟩
            have hkw4 : IntKind.i64.wrap (36 + (k4 : Int)) = 36 + (k4 : Int) := by rw [IntKind.wrap_i64]; omega
            try go_simp
            refine hK.out _ _ (show World.cell? _ _ = _ ∧ World.cell? _ _ = _ from HLC.out _ (belT Bw (by iterate 8 try (first | assumption | exact belR _ | apply belDr | apply belAlloc)))) (fun hHeld => ?_)
            clear hK K
            try simp only [Act.put, List.getElem_toArray, List.getElem_cons_zero, List.getElem_cons_succ, List.setIfInBounds_toArray, List.set_cons_zero, List.set_cons_succ]
            refine wpAnyH_take (i := 15) (oi := _) (v := ?_) rfl (by kernel_rfl) (by kernel_rfl) (by kernel_rfl) (fun _ _ _ h => h) (Or.inl ⟨by rfl, ?_⟩) (by assumption) ?_
            rotate_left
            · intro w hSw
              (try dsimp only at hSw)
              go_simp
              try with_reducible rfl
            try simp only [Act.put, List.getElem_toArray, List.getElem_cons_zero, List.getElem_cons_succ, List.setIfInBounds_toArray, List.set_cons_zero, List.set_cons_succ]
            refine wpAnyH_ready (rs := [21]) (by kernel_rfl) (by simp) ?_
            refine AllReadyH.cons (o := _) rfl (fun K hK => ?_) AllReadyH.nil
            go_simp
            refine Calls.mono (sector_any x1 _ HX1.out) ?_
            rintro e w8 ⟨sv, rfl, OS, bS⟩
            have B8 : Below wr.heap.size wr w8 := belT (by iterate 8 try (first | assumption | exact belR _ | apply belDr | apply belAlloc)) bS
            have hszS := bS.size
            obtain ⟨gS, cS, rfl, hgS, _⟩ := own_shape (n := 32) (by have := OS.2; rwa [secL_len] at this) (by decide)
            have hgW : wr.heap.size ≤ gS := by refine Nat.le_trans ?_ hgS; exact ((by iterate 8 try (first | assumption | exact belR _ | apply belDr | apply belAlloc)) : Below wr.heap.size wr _).size
            try go_simp
            refine hK.out _ _ (show World.cell? _ _ = _ ∧ World.cell? _ _ = _ from HLC.out _ (belT Bw (by iterate 8 try (first | assumption | exact belR _ | apply belDr | apply belAlloc)))) (fun hHeld => ?_)
            clear hK K
            try simp only [Act.put, List.getElem_toArray, List.getElem_cons_zero, List.getElem_cons_succ, List.setIfInBounds_toArray, List.set_cons_zero, List.set_cons_succ]
            refine wpAnyH_take (i := 22) (oi := _) (v := ?_) rfl (by kernel_rfl) (by kernel_rfl) (by kernel_rfl) (fun _ _ _ h => h) (Or.inl ⟨by rfl, ?_⟩) (by assumption) ?_
            rotate_left
            · intro w hSw
              (try dsimp only at hSw)
              go_simp
              try with_reducible rfl
            try simp only [Act.put, List.getElem_toArray, List.getElem_cons_zero, List.getElem_cons_succ, List.setIfInBounds_toArray, List.set_cons_zero, List.set_cons_succ]
            refine wpAnyH_ready (rs := [23]) (by kernel_rfl) (by simp) ?_
            refine AllReadyH.cons (o := _) rfl (fun K hK => ?_) AllReadyH.nil
            go_simp
            refine hK.out _ _ (show World.cell? _ _ = _ ∧ World.cell? _ _ = _ from HLC.out _ (belT Bw (by iterate 8 try (first | assumption | exact belR _ | apply belDr | apply belAlloc)))) (fun hHeld => ?_)
            clear hK K
            try simp only [Act.put, List.getElem_toArray, List.getElem_cons_zero, List.getElem_cons_succ, List.setIfInBounds_toArray, List.set_cons_zero, List.set_cons_succ]
            refine wpAnyH_ready (rs := [24]) (by kernel_rfl) (by simp) ?_
            refine AllReadyH.cons (o := _) rfl (fun K hK => ?_) AllReadyH.nil
            rw [if_pos (by rfl)]
            have hRS := HR.out.below B8
            refine wp_append_items _ _ 57 56 rfl i0 _ Try.underlying57 hi hz0 hz1 hz2 rfl (w.heap.size + 2) v T rfl (hRS.own.up (belA1 (belR _))) _ 1 1 [((⟨(k3 : Int), 36 + (k4 : Int), secL x1⟩ : RI), Value.slice (some ⟨gS, 0, none⟩) 32 cS)] rfl rfl (news_one _ ((⟨(k3 : Int), 36 + (k4 : Int), secL x1⟩ : RI), Value.slice (some ⟨gS, 0, none⟩) 32 cS) _ _ (by first | rfl | simp)) (fun p hp => by rw [List.mem_singleton.1 hp]; exact ⟨OS.byt.up (belA1 (belR _)), ⟨⟨by dsimp only; omega, by dsimp only; omega⟩, ⟨by dsimp only; omega, by dsimp only; omega⟩⟩, .inr (fun g hg e => by cases hg; have := HR.out.own.lt gS e; omega)⟩) (by have := hT.out; simp; omega) (by have := hRS.siz; simp; omega) ?_
            intro v9 w9 O9 g9 p9
            have hl9 : (T ++ [((⟨(k3 : Int), 36 + (k4 : Int), secL x1⟩ : RI), Value.slice (some ⟨gS, 0, none⟩) 32 cS)]).length = m + 1 := by rw [List.length_append, hT.out]; rfl
            obtain ⟨a9, c9, e9, _, _, _⟩ := O9.shape
            rw [hl9] at e9
            subst e9
            clear hl9
            have hfar9 : ∀ p ∈ T ++ [((⟨(k3 : Int), 36 + (k4 : Int), secL x1⟩ : RI), Value.slice (some ⟨gS, 0, none⟩) 32 cS)], p.1.b.length = 32 ∧ ∀ g, p.2.ownBlock = some g → w.heap.size + 2 ≤ g := by
              intro p hp
              rcases List.mem_append.1 hp with h | h
              · exact HR.out.far p h
              · rw [List.mem_singleton.1 h]; exact ⟨secL_len _, fun g hg => by cases hg; show w.heap.size + 2 ≤ gS; have := HR.out.siz; omega⟩
            obtain ⟨hbx, hRS9⟩ := (hRS.below (belA1 (belR _))).row g9 O9 hfar9
            have B9 : Below w.heap.size w w9 := belG (belT Bw (belA1 B8)) g9 (fun g hg => by have := HR.out.own.ge g hg; omega)
            refine hK.out _ _ (show World.cell? _ _ = _ ∧ World.cell? _ _ = _ from HLC.out _ B9) (fun hHeld => ?_)
            clear hK K
            try simp only [Act.put, List.getElem_toArray, List.getElem_cons_zero, List.getElem_cons_succ, List.setIfInBounds_toArray, List.set_cons_zero, List.set_cons_succ]
            refine wpAnyH_take (i := 25) (oi := _) (v := ?_) rfl (by kernel_rfl) (by kernel_rfl) (by kernel_rfl) (fun _ _ _ h => h) (Or.inl ⟨by rfl, ?_⟩) (by assumption) ?_
            rotate_left
            · intro w hSw
              (try dsimp only at hSw)
              go_simp
              try with_reducible rfl
            try simp only [Act.put, List.getElem_toArray, List.getElem_cons_zero, List.getElem_cons_succ, List.setIfInBounds_toArray, List.set_cons_zero, List.set_cons_succ]
            refine wpAnyH_ready (rs := [26]) (by kernel_rfl) (by simp) ?_
            refine AllReadyH.cons (o := _) rfl (fun K hK => ?_) AllReadyH.nil
            obtain ⟨⟨d0, d1⟩, d2, d3⟩ := hbx.two
            go_simp
            refine hK.out _ _ (show World.cell? _ _ = _ ∧ World.cell? _ _ = _ from HLC.out _ hRS9.bel) (fun hHeld => ?_)
            clear hK K
            try simp only [Act.put, List.getElem_toArray, List.getElem_cons_zero, List.getElem_cons_succ, List.setIfInBounds_toArray, List.set_cons_zero, List.set_cons_succ]
            refine wpAnyH_done (by kernel_rfl) ?_ _
            go_wp2
            go_roundw
            case rel => exact ⟨m + 1, j + 2, s, _, _, hm2, Lib.hid (by have := hj.out; omega), Lib.hid (by rw [List.length_append, hT.out]; rfl), by have := hj.out; omega, by go_num, hs, Lib.hid hRS9⟩
            case measure => simp [intOf]; omega
          · go_simp
            refine Calls.mono (within_ex x0 8 _ (by decide) (by decide) HX0.out) ?_
            rintro e wa ⟨k3, rfl, hk3, rfl⟩
            try go_simp
            refine hK.out _ _ (show World.cell? _ _ = _ ∧ World.cell? _ _ = _ from HLC.out _ (belT Bw (by iterate 8 try (first | assumption | exact belR _ | apply belDr | apply belAlloc)))) (fun hHeld => ?_)
            clear hK K
            try simp only [Act.put, List.getElem_toArray, List.getElem_cons_zero, List.getElem_cons_succ, List.setIfInBounds_toArray, List.set_cons_zero, List.set_cons_succ]
            refine wpAnyH_ready (rs := [1, 14]) (by kernel_rfl) (by simp) ?_
            refine AllReadyH.cons (o := _) rfl (fun K hK => ?_) (AllReadyH.cons (o := _) rfl (fun K hK => ?_) AllReadyH.nil)
            · have hcb := HB1.out wr (belR _)
              go_simp
              clear hcb
              refine hK.out _ _ (show World.cell? _ _ = _ ∧ World.cell? _ _ = _ from HLC.out _ (belT Bw (by iterate 8 try (first | assumption | exact belR _ | apply belDr | apply belAlloc)))) (fun hHeld => ?_)
              clear hK K
              try simp only [Act.put, List.getElem_toArray, List.getElem_cons_zero, List.getElem_cons_succ, List.setIfInBounds_toArray, List.set_cons_zero, List.set_cons_succ]
              refine wpAnyH_ready (rs := [14]) (by kernel_rfl) (by simp) ?_
              refine AllReadyH.cons (o := _) rfl (fun K hK => ?_) AllReadyH.nil
              go_simp
              refine Calls.mono (within_ex (x0.tdiv 8) 16 _ (by decide) (by decide) hx8.out) ?_
              rintro e wa ⟨k4, rfl, hk4, rfl⟩
              have hkw4 : IntKind.i64.wrap (36 + (k4 : Int)) = 36 + (k4 : Int) := by rw [IntKind.wrap_i64]; omega
              try go_simp
              refine hK.out _ _ (show World.cell? _ _ = _ ∧ World.cell? _ _ = _ from HLC.out _ (belT Bw (by iterate 8 try (first | assumption | exact belR _ | apply belDr | apply belAlloc)))) (fun hHeld => ?_)
              clear hK K
              try simp only [Act.put, List.getElem_toArray, List.getElem_cons_zero, List.getElem_cons_succ, List.setIfInBounds_toArray, List.set_cons_zero, List.set_cons_succ]
              refine wpAnyH_take (i := 15) (oi := _) (v := ?_) rfl (by kernel_rfl) (by kernel_rfl) (by kernel_rfl) (fun _ _ _ h => h) (Or.inl ⟨by rfl, ?_⟩) (by assumption) ?_
              rotate_left
              · intro w hSw
                (try dsimp only at hSw)
                go_simp
                try with_reducible rfl
              try simp only [Act.put, List.getElem_toArray, List.getElem_cons_zero, List.getElem_cons_succ, List.setIfInBounds_toArray, List.set_cons_zero, List.set_cons_succ]
              refine wpAnyH_ready (rs := [21]) (by kernel_rfl) (by simp) ?_
              refine AllReadyH.cons (o := _) rfl (fun K hK => ?_) AllReadyH.nil
              go_simp
              refine Calls.mono (sector_any x1 _ HX1.out) ?_
              rintro e w8 ⟨sv, rfl, OS, bS⟩
              have B8 : Below wr.heap.size wr w8 := belT (by iterate 8 try (first | assumption | exact belR _ | apply belDr | apply belAlloc)) bS
              have hszS := bS.size
              obtain ⟨gS, cS, rfl, hgS, _⟩ := own_shape (n := 32) (by have := OS.2; rwa [secL_len] at this) (by decide)
              have hgW : wr.heap.size ≤ gS := by refine Nat.le_trans ?_ hgS; exact ((by iterate 8 try (first | assumption | exact belR _ | apply belDr | apply belAlloc)) : Below wr.heap.size wr _).size
              try go_simp
              refine hK.out _ _ (show World.cell? _ _ = _ ∧ World.cell? _ _ = _ from HLC.out _ (belT Bw (by iterate 8 try (first | assumption | exact belR _ | apply belDr | apply belAlloc)))) (fun hHeld => ?_)
              clear hK K
              try simp only [Act.put, List.getElem_toArray, List.getElem_cons_zero, List.getElem_cons_succ, List.setIfInBounds_toArray, List.set_cons_zero, List.set_cons_succ]
              refine wpAnyH_take (i := 22) (oi := _) (v := ?_) rfl (by kernel_rfl) (by kernel_rfl) (by kernel_rfl) (fun _ _ _ h => h) (Or.inl ⟨by rfl, ?_⟩) (by assumption) ?_
              rotate_left
              · intro w hSw
                (try dsimp only at hSw)
                go_simp
                try with_reducible rfl
              try simp only [Act.put, List.getElem_toArray, List.getElem_cons_zero, List.getElem_cons_succ, List.setIfInBounds_toArray, List.set_cons_zero, List.set_cons_succ]
              refine wpAnyH_ready (rs := [23]) (by kernel_rfl) (by simp) ?_
              refine AllReadyH.cons (o := _) rfl (fun K hK => ?_) AllReadyH.nil
              go_simp
              refine hK.out _ _ (show World.cell? _ _ = _ ∧ World.cell? _ _ = _ from HLC.out _ (belT Bw (by iterate 8 try (first | assumption | exact belR _ | apply belDr | apply belAlloc)))) (fun hHeld => ?_)
              clear hK K
              try simp only [Act.put, List.getElem_toArray, List.getElem_cons_zero, List.getElem_cons_succ, List.setIfInBounds_toArray, List.set_cons_zero, List.set_cons_succ]
              refine wpAnyH_ready (rs := [24]) (by kernel_rfl) (by simp) ?_
              refine AllReadyH.cons (o := _) rfl (fun K hK => ?_) AllReadyH.nil
              rw [if_pos (by rfl)]
              have hRS := HR.out.below B8
              refine wp_append_items _ _ 57 56 rfl i0 _ Try.underlying57 hi hz0 hz1 hz2 rfl (w.heap.size + 2) v T rfl (hRS.own.up (belA1 (belR _))) _ 1 1 [((⟨(k3 : Int), 36 + (k4 : Int), secL x1⟩ : RI), Value.slice (some ⟨gS, 0, none⟩) 32 cS)] rfl rfl (news_one _ ((⟨(k3 : Int), 36 + (k4 : Int), secL x1⟩ : RI), Value.slice (some ⟨gS, 0, none⟩) 32 cS) _ _ (by first | rfl | simp)) (fun p hp => by rw [List.mem_singleton.1 hp]; exact ⟨OS.byt.up (belA1 (belR _)), ⟨⟨by dsimp only; omega, by dsimp only; omega⟩, ⟨by dsimp only; omega, by dsimp only; omega⟩⟩, .inr (fun g hg e => by cases hg; have := HR.out.own.lt gS e; omega)⟩) (by have := hT.out; simp; omega) (by have := hRS.siz; simp; omega) ?_
              intro v9 w9 O9 g9 p9
              have hl9 : (T ++ [((⟨(k3 : Int), 36 + (k4 : Int), secL x1⟩ : RI), Value.slice (some ⟨gS, 0, none⟩) 32 cS)]).length = m + 1 := by rw [List.length_append, hT.out]; rfl
              obtain ⟨a9, c9, e9, _, _, _⟩ := O9.shape
              rw [hl9] at e9
              subst e9
              clear hl9
              have hfar9 : ∀ p ∈ T ++ [((⟨(k3 : Int), 36 + (k4 : Int), secL x1⟩ : RI), Value.slice (some ⟨gS, 0, none⟩) 32 cS)], p.1.b.length = 32 ∧ ∀ g, p.2.ownBlock = some g → w.heap.size + 2 ≤ g := by
                intro p hp
                rcases List.mem_append.1 hp with h | h
                · exact HR.out.far p h
                · rw [List.mem_singleton.1 h]; exact ⟨secL_len _, fun g hg => by cases hg; show w.heap.size + 2 ≤ gS; have := HR.out.siz; omega⟩
              obtain ⟨hbx, hRS9⟩ := (hRS.below (belA1 (belR _))).row g9 O9 hfar9
              have B9 : Below w.heap.size w w9 := belG (belT Bw (belA1 B8)) g9 (fun g hg => by have := HR.out.own.ge g hg; omega)
              refine hK.out _ _ (show World.cell? _ _ = _ ∧ World.cell? _ _ = _ from HLC.out _ B9) (fun hHeld => ?_)
              clear hK K
              try simp only [Act.put, List.getElem_toArray, List.getElem_cons_zero, List.getElem_cons_succ, List.setIfInBounds_toArray, List.set_cons_zero, List.set_cons_succ]
              refine wpAnyH_take (i := 25) (oi := _) (v := ?_) rfl (by kernel_rfl) (by kernel_rfl) (by kernel_rfl) (fun _ _ _ h => h) (Or.inl ⟨by rfl, ?_⟩) (by assumption) ?_
              rotate_left
              · intro w hSw
                (try dsimp only at hSw)
                go_simp
                try with_reducible rfl
              try simp only [Act.put, List.getElem_toArray, List.getElem_cons_zero, List.getElem_cons_succ, List.setIfInBounds_toArray, List.set_cons_zero, List.set_cons_succ]
              refine wpAnyH_ready (rs := [26]) (by kernel_rfl) (by simp) ?_
              refine AllReadyH.cons (o := _) rfl (fun K hK => ?_) AllReadyH.nil
              obtain ⟨⟨d0, d1⟩, d2, d3⟩ := hbx.two
              go_simp
              refine hK.out _ _ (show World.cell? _ _ = _ ∧ World.cell? _ _ = _ from HLC.out _ hRS9.bel) (fun hHeld => ?_)
              clear hK K
              try simp only [Act.put, List.getElem_toArray, List.getElem_cons_zero, List.getElem_cons_succ, List.setIfInBounds_toArray, List.set_cons_zero, List.set_cons_succ]
              refine wpAnyH_done (by kernel_rfl) ?_ _
              go_wp2
              go_roundw
              case rel => exact ⟨m + 1, j + 2, s, _, _, hm2, Lib.hid (by have := hj.out; omega), Lib.hid (by rw [List.length_append, hT.out]; rfl), by have := hj.out; omega, by go_num, hs, Lib.hid hRS9⟩
              case measure => simp [intOf]; omega
            · go_simp
              refine Calls.mono (within_ex (x0.tdiv 8) 16 _ (by decide) (by decide) hx8.out) ?_
              rintro e wa ⟨k4, rfl, hk4, rfl⟩
              have hkw4 : IntKind.i64.wrap (36 + (k4 : Int)) = 36 + (k4 : Int) := by rw [IntKind.wrap_i64]; omega
              try go_simp
              refine hK.out _ _ (show World.cell? _ _ = _ ∧ World.cell? _ _ = _ from HLC.out _ (belT Bw (by iterate 8 try (first | assumption | exact belR _ | apply belDr | apply belAlloc)))) (fun hHeld => ?_)
              clear hK K
              try simp only [Act.put, List.getElem_toArray, List.getElem_cons_zero, List.getElem_cons_succ, List.setIfInBounds_toArray, List.set_cons_zero, List.set_cons_succ]
              refine wpAnyH_take (i := 15) (oi := _) (v := ?_) rfl (by kernel_rfl) (by kernel_rfl) (by kernel_rfl) (fun _ _ _ h => h) (Or.inl ⟨by rfl, ?_⟩) (by assumption) ?_
              rotate_left
              · intro w hSw
                (try dsimp only at hSw)
                go_simp
                try with_reducible rfl
              try simp only [Act.put, List.getElem_toArray, List.getElem_cons_zero, List.getElem_cons_succ, List.setIfInBounds_toArray, List.set_cons_zero, List.set_cons_succ]
              refine wpAnyH_ready (rs := [1, 21]) (by kernel_rfl) (by simp) ?_
              refine AllReadyH.cons (o := _) rfl (fun K hK => ?_) (AllReadyH.cons (o := _) rfl (fun K hK => ?_) AllReadyH.nil)
              · have hcb := HB1.out wr (belR _)
                go_simp
                clear hcb
                refine hK.out _ _ (show World.cell? _ _ = _ ∧ World.cell? _ _ = _ from HLC.out _ (belT Bw (by iterate 8 try (first | assumption | exact belR _ | apply belDr | apply belAlloc)))) (fun hHeld => ?_)
                clear hK K
                try simp only [Act.put, List.getElem_toArray, List.getElem_cons_zero, List.getElem_cons_succ, List.setIfInBounds_toArray, List.set_cons_zero, List.set_cons_succ]
                refine wpAnyH_ready (rs := [21]) (by kernel_rfl) (by simp) ?_
                refine AllReadyH.cons (o := _) rfl (fun K hK => ?_) AllReadyH.nil
                go_simp
                refine Calls.mono (sector_any x1 _ HX1.out) ?_
                rintro e w8 ⟨sv, rfl, OS, bS⟩
                have B8 : Below wr.heap.size wr w8 := belT (by iterate 8 try (first | assumption | exact belR _ | apply belDr | apply belAlloc)) bS
                have hszS := bS.size
                obtain ⟨gS, cS, rfl, hgS, _⟩ := own_shape (n := 32) (by have := OS.2; rwa [secL_len] at this) (by decide)
                have hgW : wr.heap.size ≤ gS := by refine Nat.le_trans ?_ hgS; exact ((by iterate 8 try (first | assumption | exact belR _ | apply belDr | apply belAlloc)) : Below wr.heap.size wr _).size
                try go_simp
                refine hK.out _ _ (show World.cell? _ _ = _ ∧ World.cell? _ _ = _ from HLC.out _ (belT Bw (by iterate 8 try (first | assumption | exact belR _ | apply belDr | apply belAlloc)))) (fun hHeld => ?_)
                clear hK K
                try simp only [Act.put, List.getElem_toArray, List.getElem_cons_zero, List.getElem_cons_succ, List.setIfInBounds_toArray, List.set_cons_zero, List.set_cons_succ]
                refine wpAnyH_take (i := 22) (oi := _) (v := ?_) rfl (by kernel_rfl) (by kernel_rfl) (by kernel_rfl) (fun _ _ _ h => h) (Or.inl ⟨by rfl, ?_⟩) (by assumption) ?_
                rotate_left
                · intro w hSw
                  (try dsimp only at hSw)
                  go_simp
                  try with_reducible rfl
                try simp only [Act.put, List.getElem_toArray, List.getElem_cons_zero, List.getElem_cons_succ, List.setIfInBounds_toArray, List.set_cons_zero, List.set_cons_succ]
                refine wpAnyH_ready (rs := [23]) (by kernel_rfl) (by simp) ?_
                refine AllReadyH.cons (o := _) rfl (fun K hK => ?_) AllReadyH.nil
                go_simp
                refine hK.out _ _ (show World.cell? _ _ = _ ∧ World.cell? _ _ = _ from HLC.out _ (belT Bw (by iterate 8 try (first | assumption | exact belR _ | apply belDr | apply belAlloc)))) (fun hHeld => ?_)
                clear hK K
                try simp only [Act.put, List.getElem_toArray, List.getElem_cons_zero, List.getElem_cons_succ, List.setIfInBounds_toArray, List.set_cons_zero, List.set_cons_succ]
                refine wpAnyH_ready (rs := [24]) (by kernel_rfl) (by simp) ?_
                refine AllReadyH.cons (o := _) rfl (fun K hK => ?_) AllReadyH.nil
                rw [if_pos (by rfl)]
                have hRS := HR.out.below B8
                refine wp_append_items _ _ 57 56 rfl i0 _ Try.underlying57 hi hz0 hz1 hz2 rfl (w.heap.size + 2) v T rfl (hRS.own.up (belA1 (belR _))) _ 1 1 [((⟨(k3 : Int), 36 + (k4 : Int), secL x1⟩ : RI), Value.slice (some ⟨gS, 0, none⟩) 32 cS)] rfl rfl (news_one _ ((⟨(k3 : Int), 36 + (k4 : Int), secL x1⟩ : RI), Value.slice (some ⟨gS, 0, none⟩) 32 cS) _ _ (by first | rfl | simp)) (fun p hp => by rw [List.mem_singleton.1 hp]; exact ⟨OS.byt.up (belA1 (belR _)), ⟨⟨by dsimp only; omega, by dsimp only; omega⟩, ⟨by dsimp only; omega, by dsimp only; omega⟩⟩, .inr (fun g hg e => by cases hg; have := HR.out.own.lt gS e; omega)⟩) (by have := hT.out; simp; omega) (by have := hRS.siz; simp; omega) ?_
                intro v9 w9 O9 g9 p9
                have hl9 : (T ++ [((⟨(k3 : Int), 36 + (k4 : Int), secL x1⟩ : RI), Value.slice (some ⟨gS, 0, none⟩) 32 cS)]).length = m + 1 := by rw [List.length_append, hT.out]; rfl
                obtain ⟨a9, c9, e9, _, _, _⟩ := O9.shape
                rw [hl9] at e9
                subst e9
                clear hl9
                have hfar9 : ∀ p ∈ T ++ [((⟨(k3 : Int), 36 + (k4 : Int), secL x1⟩ : RI), Value.slice (some ⟨gS, 0, none⟩) 32 cS)], p.1.b.length = 32 ∧ ∀ g, p.2.ownBlock = some g → w.heap.size + 2 ≤ g := by
                  intro p hp
                  rcases List.mem_append.1 hp with h | h
                  · exact HR.out.far p h
                  · rw [List.mem_singleton.1 h]; exact ⟨secL_len _, fun g hg => by cases hg; show w.heap.size + 2 ≤ gS; have := HR.out.siz; omega⟩
                obtain ⟨hbx, hRS9⟩ := (hRS.below (belA1 (belR _))).row g9 O9 hfar9
                have B9 : Below w.heap.size w w9 := belG (belT Bw (belA1 B8)) g9 (fun g hg => by have := HR.out.own.ge g hg; omega)
                refine hK.out _ _ (show World.cell? _ _ = _ ∧ World.cell? _ _ = _ from HLC.out _ B9) (fun hHeld => ?_)
                clear hK K
                try simp only [Act.put, List.getElem_toArray, List.getElem_cons_zero, List.getElem_cons_succ, List.setIfInBounds_toArray, List.set_cons_zero, List.set_cons_succ]
                refine wpAnyH_take (i := 25) (oi := _) (v := ?_) rfl (by kernel_rfl) (by kernel_rfl) (by kernel_rfl) (fun _ _ _ h => h) (Or.inl ⟨by rfl, ?_⟩) (by assumption) ?_
                rotate_left
                · intro w hSw
                  (try dsimp only at hSw)
                  go_simp
                  try with_reducible rfl
                try simp only [Act.put, List.getElem_toArray, List.getElem_cons_zero, List.getElem_cons_succ, List.setIfInBounds_toArray, List.set_cons_zero, List.set_cons_succ]
                refine wpAnyH_ready (rs := [26]) (by kernel_rfl) (by simp) ?_
                refine AllReadyH.cons (o := _) rfl (fun K hK => ?_) AllReadyH.nil
                obtain ⟨⟨d0, d1⟩, d2, d3⟩ := hbx.two
                go_simp
                refine hK.out _ _ (show World.cell? _ _ = _ ∧ World.cell? _ _ = _ from HLC.out _ hRS9.bel) (fun hHeld => ?_)
                clear hK K
                try simp only [Act.put, List.getElem_toArray, List.getElem_cons_zero, List.getElem_cons_succ, List.setIfInBounds_toArray, List.set_cons_zero, List.set_cons_succ]
                refine wpAnyH_done (by kernel_rfl) ?_ _
                go_wp2
                go_roundw
                case rel => exact ⟨m + 1, j + 2, s, _, _, hm2, Lib.hid (by have := hj.out; omega), Lib.hid (by rw [List.length_append, hT.out]; rfl), by have := hj.out; omega, by go_num, hs, Lib.hid hRS9⟩
                case measure => simp [intOf]; omega
              · go_simp
                refine Calls.mono (sector_any x1 _ HX1.out) ?_
                rintro e w8 ⟨sv, rfl, OS, bS⟩
                have B8 : Below wr.heap.size wr w8 := belT (by iterate 8 try (first | assumption | exact belR _ | apply belDr | apply belAlloc)) bS
                have hszS := bS.size
                obtain ⟨gS, cS, rfl, hgS, _⟩ := own_shape (n := 32) (by have := OS.2; rwa [secL_len] at this) (by decide)
                have hgW : wr.heap.size ≤ gS := by refine Nat.le_trans ?_ hgS; exact ((by iterate 8 try (first | assumption | exact belR _ | apply belDr | apply belAlloc)) : Below wr.heap.size wr _).size
                try go_simp
                refine hK.out _ _ (show World.cell? _ _ = _ ∧ World.cell? _ _ = _ from HLC.out _ (belT Bw (by iterate 8 try (first | assumption | exact belR _ | apply belDr | apply belAlloc)))) (fun hHeld => ?_)
                clear hK K
                try simp only [Act.put, List.getElem_toArray, List.getElem_cons_zero, List.getElem_cons_succ, List.setIfInBounds_toArray, List.set_cons_zero, List.set_cons_succ]
                refine wpAnyH_take (i := 22) (oi := _) (v := ?_) rfl (by kernel_rfl) (by kernel_rfl) (by kernel_rfl) (fun _ _ _ h => h) (Or.inl ⟨by rfl, ?_⟩) (by assumption) ?_
                rotate_left
                · intro w hSw
                  (try dsimp only at hSw)
                  go_simp
                  try with_reducible rfl
                try simp only [Act.put, List.getElem_toArray, List.getElem_cons_zero, List.getElem_cons_succ, List.setIfInBounds_toArray, List.set_cons_zero, List.set_cons_succ]
                refine wpAnyH_ready (rs := [1, 23]) (by kernel_rfl) (by simp) ?_
                refine AllReadyH.cons (o := _) rfl (fun K hK => ?_) (AllReadyH.cons (o := _) rfl (fun K hK => ?_) AllReadyH.nil)
                · have hcb := HB1.out wr (belR _)
                  have hcs := HB1.out w8 B8
                  go_simp
                  clear hcb hcs
                  refine hK.out _ _ (show World.cell? _ _ = _ ∧ World.cell? _ _ = _ from HLC.out _ (belT Bw (by iterate 8 try (first | assumption | exact belR _ | apply belDr | apply belAlloc)))) (fun hHeld => ?_)
                  clear hK K
                  try simp only [Act.put, List.getElem_toArray, List.getElem_cons_zero, List.getElem_cons_succ, List.setIfInBounds_toArray, List.set_cons_zero, List.set_cons_succ]
                  refine wpAnyH_ready (rs := [23]) (by kernel_rfl) (by simp) ?_
                  refine AllReadyH.cons (o := _) rfl (fun K hK => ?_) AllReadyH.nil
                  go_simp
                  refine hK.out _ _ (show World.cell? _ _ = _ ∧ World.cell? _ _ = _ from HLC.out _ (belT Bw (by iterate 8 try (first | assumption | exact belR _ | apply belDr | apply belAlloc)))) (fun hHeld => ?_)
                  clear hK K
                  try simp only [Act.put, List.getElem_toArray, List.getElem_cons_zero, List.getElem_cons_succ, List.setIfInBounds_toArray, List.set_cons_zero, List.set_cons_succ]
                  refine wpAnyH_ready (rs := [24]) (by kernel_rfl) (by simp) ?_
                  refine AllReadyH.cons (o := _) rfl (fun K hK => ?_) AllReadyH.nil
                  rw [if_pos (by rfl)]
                  have hRS := HR.out.below B8
                  refine wp_append_items _ _ 57 56 rfl i0 _ Try.underlying57 hi hz0 hz1 hz2 rfl (w.heap.size + 2) v T rfl (hRS.own.up (belA1 (belR _))) _ 1 1 [((⟨(k3 : Int), 36 + (k4 : Int), secL x1⟩ : RI), Value.slice (some ⟨gS, 0, none⟩) 32 cS)] rfl rfl (news_one _ ((⟨(k3 : Int), 36 + (k4 : Int), secL x1⟩ : RI), Value.slice (some ⟨gS, 0, none⟩) 32 cS) _ _ (by first | rfl | simp)) (fun p hp => by rw [List.mem_singleton.1 hp]; exact ⟨OS.byt.up (belA1 (belR _)), ⟨⟨by dsimp only; omega, by dsimp only; omega⟩, ⟨by dsimp only; omega, by dsimp only; omega⟩⟩, .inr (fun g hg e => by cases hg; have := HR.out.own.lt gS e; omega)⟩) (by have := hT.out; simp; omega) (by have := hRS.siz; simp; omega) ?_
                  intro v9 w9 O9 g9 p9
                  have hl9 : (T ++ [((⟨(k3 : Int), 36 + (k4 : Int), secL x1⟩ : RI), Value.slice (some ⟨gS, 0, none⟩) 32 cS)]).length = m + 1 := by rw [List.length_append, hT.out]; rfl
                  obtain ⟨a9, c9, e9, _, _, _⟩ := O9.shape
                  rw [hl9] at e9
                  subst e9
                  clear hl9
                  have hfar9 : ∀ p ∈ T ++ [((⟨(k3 : Int), 36 + (k4 : Int), secL x1⟩ : RI), Value.slice (some ⟨gS, 0, none⟩) 32 cS)], p.1.b.length = 32 ∧ ∀ g, p.2.ownBlock = some g → w.heap.size + 2 ≤ g := by
                    intro p hp
                    rcases List.mem_append.1 hp with h | h
                    · exact HR.out.far p h
                    · rw [List.mem_singleton.1 h]; exact ⟨secL_len _, fun g hg => by cases hg; show w.heap.size + 2 ≤ gS; have := HR.out.siz; omega⟩
                  obtain ⟨hbx, hRS9⟩ := (hRS.below (belA1 (belR _))).row g9 O9 hfar9
                  have B9 : Below w.heap.size w w9 := belG (belT Bw (belA1 B8)) g9 (fun g hg => by have := HR.out.own.ge g hg; omega)
                  refine hK.out _ _ (show World.cell? _ _ = _ ∧ World.cell? _ _ = _ from HLC.out _ B9) (fun hHeld => ?_)
                  clear hK K
                  try simp only [Act.put, List.getElem_toArray, List.getElem_cons_zero, List.getElem_cons_succ, List.setIfInBounds_toArray, List.set_cons_zero, List.set_cons_succ]
                  refine wpAnyH_take (i := 25) (oi := _) (v := ?_) rfl (by kernel_rfl) (by kernel_rfl) (by kernel_rfl) (fun _ _ _ h => h) (Or.inl ⟨by rfl, ?_⟩) (by assumption) ?_
                  rotate_left
                  · intro w hSw
                    (try dsimp only at hSw)
                    go_simp
                    try with_reducible rfl
                  try simp only [Act.put, List.getElem_toArray, List.getElem_cons_zero, List.getElem_cons_succ, List.setIfInBounds_toArray, List.set_cons_zero, List.set_cons_succ]
                  refine wpAnyH_ready (rs := [26]) (by kernel_rfl) (by simp) ?_
                  refine AllReadyH.cons (o := _) rfl (fun K hK => ?_) AllReadyH.nil
                  obtain ⟨⟨d0, d1⟩, d2, d3⟩ := hbx.two
                  go_simp
                  refine hK.out _ _ (show World.cell? _ _ = _ ∧ World.cell? _ _ = _ from HLC.out _ hRS9.bel) (fun hHeld => ?_)
                  clear hK K
                  try simp only [Act.put, List.getElem_toArray, List.getElem_cons_zero, List.getElem_cons_succ, List.setIfInBounds_toArray, List.set_cons_zero, List.set_cons_succ]
                  refine wpAnyH_done (by kernel_rfl) ?_ _
                  go_wp2
                  go_roundw
                  case rel => exact ⟨m + 1, j + 2, s, _, _, hm2, Lib.hid (by have := hj.out; omega), Lib.hid (by rw [List.length_append, hT.out]; rfl), by have := hj.out; omega, by go_num, hs, Lib.hid hRS9⟩
                  case measure => simp [intOf]; omega
                · go_simp
                  refine hK.out _ _ (show World.cell? _ _ = _ ∧ World.cell? _ _ = _ from HLC.out _ (belT Bw (by iterate 8 try (first | assumption | exact belR _ | apply belDr | apply belAlloc)))) (fun hHeld => ?_)
                  clear hK K
                  try simp only [Act.put, List.getElem_toArray, List.getElem_cons_zero, List.getElem_cons_succ, List.setIfInBounds_toArray, List.set_cons_zero, List.set_cons_succ]
                  refine wpAnyH_ready (rs := [1]) (by kernel_rfl) (by simp) ?_
                  refine AllReadyH.cons (o := _) rfl (fun K hK => ?_) AllReadyH.nil
                  have hcb := HB1.out wr (belR _)
                  have hcs := HB1.out w8 B8
                  have hca := fun o => Lib.cell?_alloc_marked o hcs
                  go_simp
                  clear hcb hcs hca
                  refine hK.out _ _ (show World.cell? _ _ = _ ∧ World.cell? _ _ = _ from HLC.out _ (belT Bw (by iterate 8 try (first | assumption | exact belR _ | apply belDr | apply belAlloc)))) (fun hHeld => ?_)
                  clear hK K
                  try simp only [Act.put, List.getElem_toArray, List.getElem_cons_zero, List.getElem_cons_succ, List.setIfInBounds_toArray, List.set_cons_zero, List.set_cons_succ]
                  refine wpAnyH_ready (rs := [24]) (by kernel_rfl) (by simp) ?_
                  refine AllReadyH.cons (o := _) rfl (fun K hK => ?_) AllReadyH.nil
                  rw [if_pos (by rfl)]
                  have hRS := HR.out.below B8
                  refine wp_append_items _ _ 57 56 rfl i0 _ Try.underlying57 hi hz0 hz1 hz2 rfl (w.heap.size + 2) v T rfl (hRS.own.up (belA1 (belR _))) _ 1 1 [((⟨(k3 : Int), 36 + (k4 : Int), secL x1⟩ : RI), Value.slice (some ⟨gS, 0, none⟩) 32 cS)] rfl rfl (news_one _ ((⟨(k3 : Int), 36 + (k4 : Int), secL x1⟩ : RI), Value.slice (some ⟨gS, 0, none⟩) 32 cS) _ _ (by first | rfl | simp)) (fun p hp => by rw [List.mem_singleton.1 hp]; exact ⟨OS.byt.up (belA1 (belR _)), ⟨⟨by dsimp only; omega, by dsimp only; omega⟩, ⟨by dsimp only; omega, by dsimp only; omega⟩⟩, .inr (fun g hg e => by cases hg; have := HR.out.own.lt gS e; omega)⟩) (by have := hT.out; simp; omega) (by have := hRS.siz; simp; omega) ?_
                  intro v9 w9 O9 g9 p9
                  have hl9 : (T ++ [((⟨(k3 : Int), 36 + (k4 : Int), secL x1⟩ : RI), Value.slice (some ⟨gS, 0, none⟩) 32 cS)]).length = m + 1 := by rw [List.length_append, hT.out]; rfl
                  obtain ⟨a9, c9, e9, _, _, _⟩ := O9.shape
                  rw [hl9] at e9
                  subst e9
                  clear hl9
                  have hfar9 : ∀ p ∈ T ++ [((⟨(k3 : Int), 36 + (k4 : Int), secL x1⟩ : RI), Value.slice (some ⟨gS, 0, none⟩) 32 cS)], p.1.b.length = 32 ∧ ∀ g, p.2.ownBlock = some g → w.heap.size + 2 ≤ g := by
                    intro p hp
                    rcases List.mem_append.1 hp with h | h
                    · exact HR.out.far p h
                    · rw [List.mem_singleton.1 h]; exact ⟨secL_len _, fun g hg => by cases hg; show w.heap.size + 2 ≤ gS; have := HR.out.siz; omega⟩
                  obtain ⟨hbx, hRS9⟩ := (hRS.below (belA1 (belR _))).row g9 O9 hfar9
                  have B9 : Below w.heap.size w w9 := belG (belT Bw (belA1 B8)) g9 (fun g hg => by have := HR.out.own.ge g hg; omega)
                  refine hK.out _ _ (show World.cell? _ _ = _ ∧ World.cell? _ _ = _ from HLC.out _ B9) (fun hHeld => ?_)
                  clear hK K
                  try simp only [Act.put, List.getElem_toArray, List.getElem_cons_zero, List.getElem_cons_succ, List.setIfInBounds_toArray, List.set_cons_zero, List.set_cons_succ]
                  refine wpAnyH_take (i := 25) (oi := _) (v := ?_) rfl (by kernel_rfl) (by kernel_rfl) (by kernel_rfl) (fun _ _ _ h => h) (Or.inl ⟨by rfl, ?_⟩) (by assumption) ?_
                  rotate_left
                  · intro w hSw
                    (try dsimp only at hSw)
                    go_simp
                    try with_reducible rfl
                  try simp only [Act.put, List.getElem_toArray, List.getElem_cons_zero, List.getElem_cons_succ, List.setIfInBounds_toArray, List.set_cons_zero, List.set_cons_succ]
                  refine wpAnyH_ready (rs := [26]) (by kernel_rfl) (by simp) ?_
                  refine AllReadyH.cons (o := _) rfl (fun K hK => ?_) AllReadyH.nil
                  obtain ⟨⟨d0, d1⟩, d2, d3⟩ := hbx.two
                  go_simp
                  refine hK.out _ _ (show World.cell? _ _ = _ ∧ World.cell? _ _ = _ from HLC.out _ hRS9.bel) (fun hHeld => ?_)
                  clear hK K
                  try simp only [Act.put, List.getElem_toArray, List.getElem_cons_zero, List.getElem_cons_succ, List.setIfInBounds_toArray, List.set_cons_zero, List.set_cons_succ]
                  refine wpAnyH_done (by kernel_rfl) ?_ _
                  go_wp2
                  go_roundw
                  case rel => exact ⟨m + 1, j + 2, s, _, _, hm2, Lib.hid (by have := hj.out; omega), Lib.hid (by rw [List.length_append, hT.out]; rfl), by have := hj.out; omega, by go_num, hs, Lib.hid hRS9⟩
                  case measure => simp [intOf]; omega
        · have hjkI : 2 * (k2 : Int) ≤ (j : Int) := by omega
          have hjkB : decide ((j : Int) < 2 * (k2 : Int)) = false := by rw [decide_eq_false_iff_not]; omega
          have hjkP : ((j : Int) < 2 * (k2 : Int)) = False := by rw [eq_iff_iff]; exact ⟨fun h => by omega, fun h => h.elim⟩
          clear hjk hjkI
          go_wp2_with fail
          go_meet
          case rel => exact Lib.hid ⟨s, v, T, hs.out, HR.out, by have := hT.out; omega⟩
      · have hltB : decide ((j : Int) + 1 < (n : Int)) = false := by rw [decide_eq_false_iff_not]; omega
        have hltP : ((j : Int) + 1 < (n : Int)) = False := by rw [eq_iff_iff]; exact ⟨fun h => by omega, fun h => h.elim⟩
        clear hlt
        go_wp2_with fail
        go_meet
        case rel => exact Lib.hid ⟨s, v, T, hs.out, HR.out, by have := hT.out; omega⟩
  obtain ⟨s, v, T, hs, HR, hT3⟩ := hcut.out
  have HR := Lib.hid HR
  clear hcut
  obtain ⟨⟨d0, d1⟩, d2, d3⟩ := HR.out.box.two
  go_wp2_with fail
  refine Calls.mono (W6.out _) ?_
  rintro e wa ⟨rfl, rfl⟩
  obtain ⟨b15, hb15⟩ : ∃ b, ((k6 : Int) == 15) = b := ⟨_, rfl⟩
  obtain ⟨b16, hb16⟩ : ∃ b, ((k6 : Int) == 16) = b := ⟨_, rfl⟩
  have HB15 := Lib.hid hb15
  go_upto_block 2 with (fail)
  go_cut [] from 61 (fun W => Hid (OfS (k1 : Int) how w W))
  case first =>
    cases b15 with
    | true =>
      go_wp2_with fail
      have O8 : Hid (OfS (k1 : Int) how w (wc.setCell ⟨w.heap.size + 1, 0, none⟩ (.int .i64 seq))) := Lib.hid ⟨seq, v, T, ⟨H0.out, fun h => by rw [EK6.out] at h; have := HB15.out; simp at this; omega⟩, HR.out.seq seq, by omega⟩
      go_meet
      case rel => exact O8
    | false =>
      cases b16 with
      | true =>
        go_wp2_with (at_builtin; go_loud (refine wpList_append_self rfl (.tmp 68) (.tmp 70) 57 56 rfl i0 _ Try.underlying57 hi hz0 hz1 hz2 rfl (w.heap.size + 2) v T rfl HR.out.own rfl (by omega) HR.out.siz ?_); intro v9 w9 O9 g9; obtain ⟨a9, c9, e9, _, _, _⟩ := O9.shape; rw [List.length_append] at e9; subst e9; obtain ⟨hbx, hRS9⟩ := HR.out.row g9 O9 (fun p hp => HR.out.far p ((List.mem_append.1 hp).elim id id)); obtain ⟨⟨x0, x1⟩, x2, x3⟩ := hbx.two)
        have O8 : Hid (OfS (k1 : Int) how w (w9.setCell ⟨w.heap.size + 1, 1, none⟩ (.slice a9 (T.length + T.length) c9))) := Lib.hid ⟨s, _, T ++ T, ⟨hs.1, fun _ => hs.2⟩, hRS9, by rw [List.length_append]; omega⟩
        go_meet
        case rel => exact O8
      | false =>
        go_wp2_with fail
        have O8 : Hid (OfS (k1 : Int) how w wc) := Lib.hid ⟨s, v, T, ⟨hs.1, fun _ => hs.2⟩, HR.out, by omega⟩
        go_meet
        case rel => exact O8
  clear d0 d1 d2 d3 HR
  obtain ⟨s2, v2, T2, hs2, HR2, hT6⟩ := hcut.out
  clear hcut
  obtain ⟨⟨d0, d1⟩, d2, d3⟩ := HR2.box.two
  by_cases hT0 : T2.length = 0
  · obtain ⟨a2', cp2, rfl, _, _, _⟩ := HR2.own.shape
    rw [hT0] at HR2 d1
    clear hT0
    obtain ⟨⟨r0, r1⟩, r2, r3⟩ := HR2.res.two
    go_wp2_with fail
    obtain ⟨⟨f0, f1⟩, _, _⟩ := ((HR2.res.set 0 (.int .i64 s2)).set 1 (.slice a2' 0 cp2)).two
    have OO := (HR2.own.fr ((Fr.cell (w := wc) ⟨w.heap.size, 0, none⟩ (.int .i64 s2)).trans (Fr.cell (w := wc.setCell ⟨w.heap.size, 0, none⟩ (.int .i64 s2)) ⟨w.heap.size, 1, none⟩ (.slice a2' 0 cp2))) (fun g hg e => by have := HR2.own.ge g hg; simp at e; omega) (fun p hp g hg e => by have := (HR2.far p hp).2 g hg; simp at e; omega))
    exact bodyPost_ret (v := .agg #[.int .i64 s2, .slice a2' 0 cp2]) (by simp [results, Try.results32, go_sem, f0, f1]) rfl ⟨s2, _, _, rfl, hs2.1, OO, fun q hq => (HR2.far q hq).2, hT6, fun h => by rw [EK1.out]; exact hs2.2 h, (HR2.bel.setCell (Nat.le_refl _) _).setCell (Nat.le_refl _) _⟩
  · obtain ⟨g, cap, rfl, hc3, hc4, hg5⟩ := HR2.own.shape1 (by omega)
    obtain ⟨k, hk⟩ : ∃ k, T2.length = k + 1 := ⟨T2.length - 1, by omega⟩
    rw [hk] at HR2 d1 hc3
    have HK := Lib.hid hk
    have hgB := HR2.own.ge g rfl
    obtain ⟨p, hpk⟩ : ∃ p, T2[k]? = some p := ⟨T2[k]'(by omega), List.getElem?_eq_getElem _⟩
    obtain ⟨c0, c1, c2⟩ := HR2.own.cellsAt hpk
    have hgood := HR2.own.2 p (List.mem_of_getElem? hpk)
    have hfarp := HR2.far p (List.mem_of_getElem? hpk)
    obtain ⟨aD, cD, eD, hcD, hcD2⟩ := hgood.1.shapeN hfarp.1
    have hcD3 : (32 : Int) ≤ (cD : Int) := by omega
    have y0 := HR2.own.free (k * 3)
    have y1 := HR2.own.free (k * 3 + 1)
    have y2 := HR2.own.free (k * 3 + 2)
    have hkk : (k : Int) < (k : Int) + 1 := by omega
    have hkk0 : (0 : Int) ≤ (k : Int) := by omega
    clear hk hT0
    go_wp2_with fail
    refine Calls.mono (W6.out _) ?_
    rintro e wa ⟨rfl, rfl⟩
    obtain ⟨b17, hb17⟩ : ∃ b, ((k6 : Int) == 17) = b := ⟨_, rfl⟩
    obtain ⟨b18, hb18⟩ : ∃ b, ((k6 : Int) == 18) = b := ⟨_, rfl⟩
    obtain ⟨b19, hb19⟩ : ∃ b, ((k6 : Int) == 19) = b := ⟨_, rfl⟩
    cases b17 with
    | true =>
      go_upto_region 21 with (fail)
      obtain ⟨W1, hW1⟩ : ∃ W1, W1 = wc.setCell ⟨g, k * 3 + 0, none⟩ (.int .i64 seq) := ⟨_, rfl⟩
      have Bx1 : Box W1 (w.heap.size + 1) [.int .i64 s2, .slice (some ⟨g, 0, none⟩) (k + 1) cap] := by rw [hW1]; exact HR2.box.other (by omega)
      have Bx2 : Box W1 w.heap.size [.int .i64 0, .slice none 0 0] := by rw [hW1]; exact HR2.res.other (by omega)
      have BW1 : Below w.heap.size w W1 := by rw [hW1]; exact HR2.bel.setCell (by show w.heap.size ≤ g; omega) _
      have HI9 := own_put HR2.own hpk (fun q hq b hb => (HR2.far q hq).2 b hb) 0 (by decide) (.int .i64 seq) ((⟨seq, p.1.a, p.1.b⟩ : RI), p.2) rfl hgood.1 (fun b hb => ⟨hfarp.2 b hb, fun e => (hgood.2.2.resolve_left (fun e => by have := hfarp.1; rw [e] at this; cases this)) b hb (by rw [e]; rfl)⟩) ⟨H0.out, hgood.2.1.2⟩ w.heap.size (by omega) (by omega) (.int .i64 s2) (.slice (some ⟨g, 0, none⟩) (k + 1) cap)
      first | rw [← hW1] at HI9 ⊢ | (rw [show wc.setCell ⟨g, k * 3, none⟩ (.int .i64 seq) = W1 from hW1.symm]; rw [← hW1] at HI9)
      clear hW1 d0 d1 d2 d3 c0 c1 c2
      obtain ⟨⟨d0, d1⟩, _, _⟩ := Bx1.two
      obtain ⟨⟨r0, r1⟩, r2, r3⟩ := Bx2.two
      go_wp2_with fail
      obtain ⟨⟨f0, f1⟩, _, _⟩ := ((Bx2.set 0 (.int .i64 s2)).set 1 (.slice (some ⟨g, 0, none⟩) (k + 1) cap)).two
      exact bodyPost_ret (v := .agg #[.int .i64 s2, .slice (some ⟨g, 0, none⟩) (k + 1) cap]) (by simp [results, Try.results32, go_sem, f0, f1]) rfl ⟨s2, _, _, rfl, hs2.1, HI9.1, HI9.2, by rw [List.length_set]; exact hT6, fun h => by rw [EK1.out]; exact hs2.2 h, (BW1.setCell (Nat.le_refl _) _).setCell (Nat.le_refl _) _⟩
    | false =>
      cases b18 with
      | true =>
        go_upto_region 21 with (fail)
        obtain ⟨W1, hW1⟩ : ∃ W1, W1 = wc.setCell ⟨g, k * 3 + 1, none⟩ (.int .i64 seq) := ⟨_, rfl⟩
        have Bx1 : Box W1 (w.heap.size + 1) [.int .i64 s2, .slice (some ⟨g, 0, none⟩) (k + 1) cap] := by rw [hW1]; exact HR2.box.other (by omega)
        have Bx2 : Box W1 w.heap.size [.int .i64 0, .slice none 0 0] := by rw [hW1]; exact HR2.res.other (by omega)
        have BW1 : Below w.heap.size w W1 := by rw [hW1]; exact HR2.bel.setCell (by show w.heap.size ≤ g; omega) _
        have HI9 := own_put HR2.own hpk (fun q hq b hb => (HR2.far q hq).2 b hb) 1 (by decide) (.int .i64 seq) ((⟨p.1.d, seq, p.1.b⟩ : RI), p.2) rfl hgood.1 (fun b hb => ⟨hfarp.2 b hb, fun e => (hgood.2.2.resolve_left (fun e => by have := hfarp.1; rw [e] at this; cases this)) b hb (by rw [e]; rfl)⟩) ⟨hgood.2.1.1, H0.out⟩ w.heap.size (by omega) (by omega) (.int .i64 s2) (.slice (some ⟨g, 0, none⟩) (k + 1) cap)
        first | rw [← hW1] at HI9 ⊢ | (rw [show wc.setCell ⟨g, k * 3, none⟩ (.int .i64 seq) = W1 from hW1.symm]; rw [← hW1] at HI9)
        clear hW1 d0 d1 d2 d3 c0 c1 c2
        obtain ⟨⟨d0, d1⟩, _, _⟩ := Bx1.two
        obtain ⟨⟨r0, r1⟩, r2, r3⟩ := Bx2.two
        go_wp2_with fail
        obtain ⟨⟨f0, f1⟩, _, _⟩ := ((Bx2.set 0 (.int .i64 s2)).set 1 (.slice (some ⟨g, 0, none⟩) (k + 1) cap)).two
        exact bodyPost_ret (v := .agg #[.int .i64 s2, .slice (some ⟨g, 0, none⟩) (k + 1) cap]) (by simp [results, Try.results32, go_sem, f0, f1]) rfl ⟨s2, _, _, rfl, hs2.1, HI9.1, HI9.2, by rw [List.length_set]; exact hT6, fun h => by rw [EK1.out]; exact hs2.2 h, (BW1.setCell (Nat.le_refl _) _).setCell (Nat.le_refl _) _⟩
      | false =>
        cases b19 with
        | true =>
          go_wp2_with fail
          rw [eD] at c2
          refine wp_region_held_drew (S := fun W => W.cell? ⟨w.heap.size + 1, 1, none⟩ = some (.slice (some ⟨g, 0, none⟩) (k + 1) cap)) (by kernel_rfl) (show World.cell? _ _ = _ from d1) (fun hHeld => ?_)
          refine wpAnyH_take (i := 0) (oi := _) (v := ?_) rfl (by kernel_rfl) (by kernel_rfl) (by kernel_rfl) (fun _ _ _ h => h) (Or.inl ⟨by rfl, ?_⟩) (by assumption) ?_
          rotate_left
          · intro w hSw
            (try dsimp only at hSw)
            go_simp
            try with_reducible rfl
          try simp only [Act.put, List.getElem_toArray, List.getElem_cons_zero, List.getElem_cons_succ, List.setIfInBounds_toArray, List.set_cons_zero, List.set_cons_succ]
          refine wpAnyH_take (i := 2) (oi := _) (v := ?_) rfl (by kernel_rfl) (by kernel_rfl) (by kernel_rfl) (fun _ _ _ h => h) (Or.inl ⟨by rfl, ?_⟩) (by assumption) ?_
          rotate_left
          · intro w hSw
            (try dsimp only at hSw)
            go_simp
            try with_reducible rfl
          try simp only [Act.put, List.getElem_toArray, List.getElem_cons_zero, List.getElem_cons_succ, List.setIfInBounds_toArray, List.set_cons_zero, List.set_cons_succ]
          refine wpAnyH_take (i := 3) (oi := _) (v := ?_) rfl (by kernel_rfl) (by kernel_rfl) (by kernel_rfl) (fun _ _ _ h => h) (Or.inl ⟨by rfl, ?_⟩) (by assumption) ?_
          rotate_left
          · intro w hSw
            (try dsimp only at hSw)
            go_simp
            try with_reducible rfl
          try simp only [Act.put, List.getElem_toArray, List.getElem_cons_zero, List.getElem_cons_succ, List.setIfInBounds_toArray, List.set_cons_zero, List.set_cons_succ]
          refine wpAnyH_take (i := 5) (oi := _) (v := ?_) rfl (by kernel_rfl) (by kernel_rfl) (by kernel_rfl) (fun _ _ _ h => h) (Or.inl ⟨by rfl, ?_⟩) (by assumption) ?_
          rotate_left
          · intro w hSw
            (try dsimp only at hSw)
            go_simp
            try with_reducible rfl
          try simp only [Act.put, List.getElem_toArray, List.getElem_cons_zero, List.getElem_cons_succ, List.setIfInBounds_toArray, List.set_cons_zero, List.set_cons_succ]
          refine wpAnyH_take (i := 9) (oi := _) (v := ?_) rfl (by kernel_rfl) (by kernel_rfl) (by kernel_rfl) (fun _ _ _ h => h) (Or.inl ⟨by rfl, ?_⟩) (by assumption) ?_
          rotate_left
          · intro w hSw
            (try dsimp only at hSw)
            go_simp
            try with_reducible rfl
          try simp only [Act.put, List.getElem_toArray, List.getElem_cons_zero, List.getElem_cons_succ, List.setIfInBounds_toArray, List.set_cons_zero, List.set_cons_succ]
          refine wpAnyH_take (i := 10) (oi := _) (v := ?_) rfl (by kernel_rfl) (by kernel_rfl) (by kernel_rfl) (fun _ _ _ h => h) (Or.inl ⟨by rfl, ?_⟩) (by assumption) ?_
          rotate_left
          · intro w hSw
            (try dsimp only at hSw)
            go_simp
            try with_reducible rfl
          try simp only [Act.put, List.getElem_toArray, List.getElem_cons_zero, List.getElem_cons_succ, List.setIfInBounds_toArray, List.set_cons_zero, List.set_cons_succ]
          refine wpAnyH_take (i := 1) (oi := _) (v := ?_) rfl (by kernel_rfl) (by kernel_rfl) (by kernel_rfl) (fun _ _ _ h => h) (Or.inl ⟨by rfl, ?_⟩) (by assumption) ?_
          rotate_left
          · intro w hSw
            (try dsimp only at hSw)
            go_simp
            try with_reducible rfl
          try simp only [Act.put, List.getElem_toArray, List.getElem_cons_zero, List.getElem_cons_succ, List.setIfInBounds_toArray, List.set_cons_zero, List.set_cons_succ]
          refine wpAnyH_take (i := 4) (oi := _) (v := ?_) rfl (by kernel_rfl) (by kernel_rfl) (by kernel_rfl) (fun _ _ _ h => h) (Or.inl ⟨by rfl, ?_⟩) (by assumption) ?_
          rotate_left
          · intro w hSw
            (try dsimp only at hSw)
            go_simp
            try with_reducible rfl
          try simp only [Act.put, List.getElem_toArray, List.getElem_cons_zero, List.getElem_cons_succ, List.setIfInBounds_toArray, List.set_cons_zero, List.set_cons_succ]
          refine wpAnyH_take (i := 6) (oi := _) (v := ?_) rfl (by kernel_rfl) (by kernel_rfl) (by kernel_rfl) (fun _ _ _ h => h) (Or.inl ⟨by rfl, ?_⟩) (by assumption) ?_
          rotate_left
          · intro w hSw
            (try dsimp only at hSw)
            go_simp
            try with_reducible rfl
          try simp only [Act.put, List.getElem_toArray, List.getElem_cons_zero, List.getElem_cons_succ, List.setIfInBounds_toArray, List.set_cons_zero, List.set_cons_succ]
          refine wpAnyH_take (i := 7) (oi := _) (v := ?_) rfl (by kernel_rfl) (by kernel_rfl) (by kernel_rfl) (fun _ _ _ h => h) (Or.inl ⟨by rfl, ?_⟩) (by assumption) ?_
          rotate_left
          · intro w hSw
            (try dsimp only at hSw)
            go_simp
            try with_reducible rfl
          try simp only [Act.put, List.getElem_toArray, List.getElem_cons_zero, List.getElem_cons_succ, List.setIfInBounds_toArray, List.set_cons_zero, List.set_cons_succ]
          refine wpAnyH_ready (rs := [8, 11]) (by kernel_rfl) (by simp) ?_
          refine AllReadyH.cons (o := _) rfl (fun K hK => ?_) (AllReadyH.cons (o := _) rfl (fun K hK => ?_) AllReadyH.nil)
          · go_simp
            refine hK.out _ _ (show World.cell? _ _ = _ from d1) (fun hHeld => ?_)
            clear hK K
            try simp only [Act.put, List.getElem_toArray, List.getElem_cons_zero, List.getElem_cons_succ, List.setIfInBounds_toArray, List.set_cons_zero, List.set_cons_succ]
            refine wpAnyH_ready (rs := [11]) (by kernel_rfl) (by simp) ?_
            refine AllReadyH.cons (o := _) rfl (fun K hK => ?_) AllReadyH.nil
            go_simp
            refine Calls.mono (within_ex seq 33 _ (by decide) (by decide) H0.out) ?_
            rintro e wa ⟨k8, rfl, hk8, rfl⟩
            have hk8c : (k8 : Int) ≤ (cD : Int) := by omega
            have hk80 : (0 : Int) ≤ (k8 : Int) := by omega
            try go_simp
            refine hK.out _ _ (show World.cell? _ _ = _ from d1) (fun hHeld => ?_)
            clear hK K
            try simp only [Act.put, List.getElem_toArray, List.getElem_cons_zero, List.getElem_cons_succ, List.setIfInBounds_toArray, List.set_cons_zero, List.set_cons_succ]
            refine wpAnyH_take (i := 12) (oi := _) (v := ?_) rfl (by kernel_rfl) (by kernel_rfl) (by kernel_rfl) (fun _ _ _ h => h) (Or.inl ⟨by rfl, ?_⟩) (by assumption) ?_
            rotate_left
            · intro w hSw
              (try dsimp only at hSw)
              go_simp
              try with_reducible rfl
            try simp only [Act.put, List.getElem_toArray, List.getElem_cons_zero, List.getElem_cons_succ, List.setIfInBounds_toArray, List.set_cons_zero, List.set_cons_succ]
            refine wpAnyH_take (i := 13) (oi := _) (v := ?_) rfl (by kernel_rfl) (by kernel_rfl) (by kernel_rfl) (fun _ _ _ h => h) (Or.inl ⟨by rfl, ?_⟩) (by assumption) ?_
            rotate_left
            · intro w hSw
              (try dsimp only at hSw)
              go_simp
              try with_reducible rfl
            try simp only [Act.put, List.getElem_toArray, List.getElem_cons_zero, List.getElem_cons_succ, List.setIfInBounds_toArray, List.set_cons_zero, List.set_cons_succ]
            refine wpAnyH_take (i := 14) (oi := _) (v := ?_) rfl (by kernel_rfl) (by kernel_rfl) (by kernel_rfl) (fun _ _ _ h => h) (Or.inl ⟨by rfl, ?_⟩) (by assumption) ?_
            rotate_left
            · intro w hSw
              (try dsimp only at hSw)
              go_simp
              try with_reducible rfl
            try simp only [Act.put, List.getElem_toArray, List.getElem_cons_zero, List.getElem_cons_succ, List.setIfInBounds_toArray, List.set_cons_zero, List.set_cons_succ]
            refine wpAnyH_ready (rs := [15]) (by kernel_rfl) (by simp) ?_
            refine AllReadyH.cons (o := _) rfl (fun K hK => ?_) AllReadyH.nil
            go_simp
            have hd1 : (wc.setCell ⟨g, k * 3 + 2, none⟩ (.slice aD k8 cD)).cell? ⟨w.heap.size + 1, 1, none⟩ = some (.slice (some ⟨g, 0, none⟩) (k + 1) cap) := (World.cell?_setCell_other _ _ _ _ (by intro e; have := congrArg Addr.block e; simp at this; omega)).trans d1
            refine hK.out _ _ (show World.cell? _ _ = _ from hd1) (fun hHeld => ?_)
            clear hK K
            try simp only [Act.put, List.getElem_toArray, List.getElem_cons_zero, List.getElem_cons_succ, List.setIfInBounds_toArray, List.set_cons_zero, List.set_cons_succ]
            refine wpAnyH_done (by kernel_rfl) ?_ _
            have HRd := HR2.below (belDr (belR _))
            have hby : Byt wc.drew (.slice aD 32 cD) p.1.b := by have := hgood.1.drew; rwa [eD] at this
            obtain ⟨W1, hW1⟩ : ∃ W1, W1 = wc.drew.setCell ⟨g, k * 3 + 2, none⟩ (.slice aD k8 cD) := ⟨_, rfl⟩
            have Bx1 : Box W1 (w.heap.size + 1) [.int .i64 s2, .slice (some ⟨g, 0, none⟩) (k + 1) cap] := by rw [hW1]; exact HRd.box.other (by omega)
            have Bx2 : Box W1 w.heap.size [.int .i64 0, .slice none 0 0] := by rw [hW1]; exact HRd.res.other (by omega)
            have BW1 : Below w.heap.size w W1 := by rw [hW1]; exact HRd.bel.setCell (by show w.heap.size ≤ g; omega) _
            have HI9 := own_put HRd.own hpk (fun q hq b hb => (HR2.far q hq).2 b hb) 2 (by decide) (.slice aD k8 cD) ((⟨p.1.d, p.1.a, p.1.b.take k8⟩ : RI), Value.slice aD k8 cD) (by show [_, _, _] = [_, _, _]; rfl) (Byt.takeV hby (by omega)) (fun b hb => ⟨hfarp.2 b (by rw [eD, own_len aD 32 k8 cD cD]; exact hb), fun e => (hgood.2.2.resolve_left (fun e => by have := hfarp.1; rw [e] at this; cases this)) b (by rw [eD, own_len aD 32 k8 cD cD]; exact hb) (by rw [e]; rfl)⟩) hgood.2.1 w.heap.size (by omega) (by omega) (.int .i64 s2) (.slice (some ⟨g, 0, none⟩) (k + 1) cap)
            rw [show (wc.setCell ⟨g, k * 3 + 2, none⟩ (.slice aD k8 cD)).drew = W1 from hW1.symm]; rw [← hW1] at HI9
            clear hW1 d0 d1 d2 d3 c0 c1 c2
            obtain ⟨⟨d0, d1⟩, _, _⟩ := Bx1.two
            obtain ⟨⟨r0, r1⟩, r2, r3⟩ := Bx2.two
            go_wp2_with fail
            obtain ⟨⟨f0, f1⟩, _, _⟩ := ((Bx2.set 0 (.int .i64 s2)).set 1 (.slice (some ⟨g, 0, none⟩) (k + 1) cap)).two
            exact bodyPost_ret (v := .agg #[.int .i64 s2, .slice (some ⟨g, 0, none⟩) (k + 1) cap]) (by simp [results, Try.results32, go_sem, f0, f1]) rfl ⟨s2, _, _, rfl, hs2.1, HI9.1, HI9.2, by rw [List.length_set]; exact hT6, fun h => by rw [EK1.out]; exact hs2.2 h, (BW1.setCell (Nat.le_refl _) _).setCell (Nat.le_refl _) _⟩
          · go_simp
            refine Calls.mono (within_ex seq 33 _ (by decide) (by decide) H0.out) ?_
            rintro e wa ⟨k8, rfl, hk8, rfl⟩
            have hk8c : (k8 : Int) ≤ (cD : Int) := by omega
            have hk80 : (0 : Int) ≤ (k8 : Int) := by omega
            try go_simp
            refine hK.out _ _ (show World.cell? _ _ = _ from d1) (fun hHeld => ?_)
            clear hK K
            try simp only [Act.put, List.getElem_toArray, List.getElem_cons_zero, List.getElem_cons_succ, List.setIfInBounds_toArray, List.set_cons_zero, List.set_cons_succ]
            refine wpAnyH_ready (rs := [8]) (by kernel_rfl) (by simp) ?_
            refine AllReadyH.cons (o := _) rfl (fun K hK => ?_) AllReadyH.nil
            go_simp
            refine hK.out _ _ (show World.cell? _ _ = _ from d1) (fun hHeld => ?_)
            clear hK K
            try simp only [Act.put, List.getElem_toArray, List.getElem_cons_zero, List.getElem_cons_succ, List.setIfInBounds_toArray, List.set_cons_zero, List.set_cons_succ]
            refine wpAnyH_take (i := 12) (oi := _) (v := ?_) rfl (by kernel_rfl) (by kernel_rfl) (by kernel_rfl) (fun _ _ _ h => h) (Or.inl ⟨by rfl, ?_⟩) (by assumption) ?_
            rotate_left
            · intro w hSw
              (try dsimp only at hSw)
              go_simp
              try with_reducible rfl
            try simp only [Act.put, List.getElem_toArray, List.getElem_cons_zero, List.getElem_cons_succ, List.setIfInBounds_toArray, List.set_cons_zero, List.set_cons_succ]
            refine wpAnyH_take (i := 13) (oi := _) (v := ?_) rfl (by kernel_rfl) (by kernel_rfl) (by kernel_rfl) (fun _ _ _ h => h) (Or.inl ⟨by rfl, ?_⟩) (by assumption) ?_
            rotate_left
            · intro w hSw
              (try dsimp only at hSw)
              go_simp
              try with_reducible rfl
            try simp only [Act.put, List.getElem_toArray, List.getElem_cons_zero, List.getElem_cons_succ, List.setIfInBounds_toArray, List.set_cons_zero, List.set_cons_succ]
            refine wpAnyH_take (i := 14) (oi := _) (v := ?_) rfl (by kernel_rfl) (by kernel_rfl) (by kernel_rfl) (fun _ _ _ h => h) (Or.inl ⟨by rfl, ?_⟩) (by assumption) ?_
            rotate_left
            · intro w hSw
              (try dsimp only at hSw)
              go_simp
              try with_reducible rfl
            try simp only [Act.put, List.getElem_toArray, List.getElem_cons_zero, List.getElem_cons_succ, List.setIfInBounds_toArray, List.set_cons_zero, List.set_cons_succ]
            refine wpAnyH_ready (rs := [15]) (by kernel_rfl) (by simp) ?_
            refine AllReadyH.cons (o := _) rfl (fun K hK => ?_) AllReadyH.nil
            go_simp
            have hd1 : (wc.setCell ⟨g, k * 3 + 2, none⟩ (.slice aD k8 cD)).cell? ⟨w.heap.size + 1, 1, none⟩ = some (.slice (some ⟨g, 0, none⟩) (k + 1) cap) := (World.cell?_setCell_other _ _ _ _ (by intro e; have := congrArg Addr.block e; simp at this; omega)).trans d1
            refine hK.out _ _ (show World.cell? _ _ = _ from hd1) (fun hHeld => ?_)
            clear hK K
            try simp only [Act.put, List.getElem_toArray, List.getElem_cons_zero, List.getElem_cons_succ, List.setIfInBounds_toArray, List.set_cons_zero, List.set_cons_succ]
            refine wpAnyH_done (by kernel_rfl) ?_ _
            have HRd := HR2.below (belDr (belR _))
            have hby : Byt wc.drew (.slice aD 32 cD) p.1.b := by have := hgood.1.drew; rwa [eD] at this
            obtain ⟨W1, hW1⟩ : ∃ W1, W1 = wc.drew.setCell ⟨g, k * 3 + 2, none⟩ (.slice aD k8 cD) := ⟨_, rfl⟩
            have Bx1 : Box W1 (w.heap.size + 1) [.int .i64 s2, .slice (some ⟨g, 0, none⟩) (k + 1) cap] := by rw [hW1]; exact HRd.box.other (by omega)
            have Bx2 : Box W1 w.heap.size [.int .i64 0, .slice none 0 0] := by rw [hW1]; exact HRd.res.other (by omega)
            have BW1 : Below w.heap.size w W1 := by rw [hW1]; exact HRd.bel.setCell (by show w.heap.size ≤ g; omega) _
            have HI9 := own_put HRd.own hpk (fun q hq b hb => (HR2.far q hq).2 b hb) 2 (by decide) (.slice aD k8 cD) ((⟨p.1.d, p.1.a, p.1.b.take k8⟩ : RI), Value.slice aD k8 cD) (by show [_, _, _] = [_, _, _]; rfl) (Byt.takeV hby (by omega)) (fun b hb => ⟨hfarp.2 b (by rw [eD, own_len aD 32 k8 cD cD]; exact hb), fun e => (hgood.2.2.resolve_left (fun e => by have := hfarp.1; rw [e] at this; cases this)) b (by rw [eD, own_len aD 32 k8 cD cD]; exact hb) (by rw [e]; rfl)⟩) hgood.2.1 w.heap.size (by omega) (by omega) (.int .i64 s2) (.slice (some ⟨g, 0, none⟩) (k + 1) cap)
            rw [show (wc.setCell ⟨g, k * 3 + 2, none⟩ (.slice aD k8 cD)).drew = W1 from hW1.symm]; rw [← hW1] at HI9
            clear hW1 d0 d1 d2 d3 c0 c1 c2
            obtain ⟨⟨d0, d1⟩, _, _⟩ := Bx1.two
            obtain ⟨⟨r0, r1⟩, r2, r3⟩ := Bx2.two
            go_wp2_with fail
            obtain ⟨⟨f0, f1⟩, _, _⟩ := ((Bx2.set 0 (.int .i64 s2)).set 1 (.slice (some ⟨g, 0, none⟩) (k + 1) cap)).two
            exact bodyPost_ret (v := .agg #[.int .i64 s2, .slice (some ⟨g, 0, none⟩) (k + 1) cap]) (by simp [results, Try.results32, go_sem, f0, f1]) rfl ⟨s2, _, _, rfl, hs2.1, HI9.1, HI9.2, by rw [List.length_set]; exact hT6, fun h => by rw [EK1.out]; exact hs2.2 h, (BW1.setCell (Nat.le_refl _) _).setCell (Nat.le_refl _) _⟩
        | false =>
          obtain ⟨⟨r0, r1⟩, r2, r3⟩ := HR2.res.two
          go_wp2_with fail
          obtain ⟨⟨f0, f1⟩, _, _⟩ := ((HR2.res.set 0 (.int .i64 s2)).set 1 (.slice (some ⟨g, 0, none⟩) (k + 1) cap)).two
          have OO := (HR2.own.fr ((Fr.cell (w := wc) ⟨w.heap.size, 0, none⟩ (.int .i64 s2)).trans (Fr.cell (w := wc.setCell ⟨w.heap.size, 0, none⟩ (.int .i64 s2)) ⟨w.heap.size, 1, none⟩ (.slice (some ⟨g, 0, none⟩) (k + 1) cap))) (fun g hg e => by have := HR2.own.ge g hg; simp at e; omega) (fun p hp g hg e => by have := (HR2.far p hp).2 g hg; simp at e; omega))
          exact bodyPost_ret (v := .agg #[.int .i64 s2, .slice (some ⟨g, 0, none⟩) (k + 1) cap]) (by simp [results, Try.results32, go_sem, f0, f1]) rfl ⟨s2, _, _, rfl, hs2.1, OO, fun q hq => (HR2.far q hq).2, hT6, fun h => by rw [EK1.out]; exact hs2.2 h, (HR2.bel.setCell (Nat.le_refl _) _).setCell (Nat.le_refl _) _⟩
end Go.Proofs.Ytenjpldinnbcbaa
