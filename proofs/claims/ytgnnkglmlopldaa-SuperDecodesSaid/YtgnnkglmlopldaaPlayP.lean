/- The walk of wattleplay.Pair: it answers two geometries of the machine's numbers. -/
import Derived.Test.YtgnnkglmlopldaaPlayG
import Derived.Test.YtgnnkglmlopldaaFr
import Derived.Deep.CutRange
namespace Go.Proofs.Ytgnnkglmlopldaa
open Go.RowKit
set_option linter.unusedVariables false
set_option linter.unusedSimpArgs false
set_option maxRecDepth 100000
set_option maxHeartbeats 40000000

/-- a geometry in a box -/
def GB (W : World) (g : Nat) (l d c : Int) : Prop :=
  (W.cell? ⟨g, 0, none⟩ = some (.int .i64 l) ∧ W.cell? ⟨g, 1, none⟩ = some (.int .i64 d) ∧ W.cell? ⟨g, 2, none⟩ = some (.int .i64 c)) ∧ W.frozen? ⟨g, 0, none⟩ = false ∧ W.frozen? ⟨g, 1, none⟩ = false ∧ W.frozen? ⟨g, 2, none⟩ = false
theorem GB.below {W w : World} {g : Nat} {l d c : Int} (h : GB W g l d c) (hb : Below W.heap.size W w) : GB w g l d c := by
  obtain ⟨⟨h0, h1, h2⟩, f0, f1, f2⟩ := h
  have hlt := World.block_lt_of_cell? _ _ h0
  obtain ⟨c, f⟩ := bcell hb
  exact ⟨⟨(c _ _ hlt).trans h0, (c _ _ hlt).trans h1, (c _ _ hlt).trans h2⟩, (f _ _ hlt).trans f0, (f _ _ hlt).trans f1, (f _ _ hlt).trans f2⟩
theorem GB.cell {W : World} {g k o : Nat} {l d c : Int} {v : Value} (h : GB W g l d c) (hne : g ≠ k) : GB (W.setCell ⟨k, o, none⟩ v) g l d c := by
  obtain ⟨⟨h0, h1, h2⟩, f0, f1, f2⟩ := h
  have hb := Below.heap_setCell W ⟨k, o, none⟩ v g hne
  exact ⟨⟨(World.cell?_of_block hb).trans h0, (World.cell?_of_block hb).trans h1, (World.cell?_of_block hb).trans h2⟩, (World.frozen?_of_block hb).trans f0, (World.frozen?_of_block hb).trans f1, (World.frozen?_of_block hb).trans f2⟩
theorem GB.new (w : World) (l d c : Int) (t : TypeId) : GB (w.alloc (.cells #[.int .i64 l, .int .i64 d, .int .i64 c] t)) w.heap.size l d c := by
  have h : (w.alloc (.cells #[.int .i64 l, .int .i64 d, .int .i64 c] t)).heap[w.heap.size]? = some (.cells #[.int .i64 l, .int .i64 d, .int .i64 c] t) := heap_alloc_new w _
  have hz := there_new w #[.int .i64 l, .int .i64 d, .int .i64 c] t
  exact ⟨⟨cell_of_row _ _ 0 _ _ _ h, cell_of_row _ _ 1 _ _ _ h, cell_of_row _ _ 2 _ _ _ h⟩, there_frozen hz (o := 0) (Nat.zero_lt_succ _), there_frozen hz (o := 1) (Nat.succ_lt_succ (Nat.zero_lt_succ _)), there_frozen hz (o := 2) (Nat.succ_lt_succ (Nat.succ_lt_succ (Nat.zero_lt_succ _)))⟩
theorem GB.one {W : World} {g : Nat} {l d c : Int} (h : GB W g l d c) (x : Int) : GB (W.setCell ⟨g, 0, none⟩ (.int .i64 x)) g x d c ∧ GB (W.setCell ⟨g, 1, none⟩ (.int .i64 x)) g l x c ∧ GB (W.setCell ⟨g, 2, none⟩ (.int .i64 x)) g l d x := by
  obtain ⟨⟨h0, h1, h2⟩, f0, f1, f2⟩ := h
  refine ⟨⟨⟨World.cell?_setCell_same _ _ _ h0, (World.cell?_setCell_other _ _ _ _ (by simp)).trans h1, (World.cell?_setCell_other _ _ _ _ (by simp)).trans h2⟩, ?_, ?_, ?_⟩, ⟨⟨(World.cell?_setCell_other _ _ _ _ (by simp)).trans h0, World.cell?_setCell_same _ _ _ h1, (World.cell?_setCell_other _ _ _ _ (by simp)).trans h2⟩, ?_, ?_, ?_⟩, ⟨⟨(World.cell?_setCell_other _ _ _ _ (by simp)).trans h0, (World.cell?_setCell_other _ _ _ _ (by simp)).trans h1, World.cell?_setCell_same _ _ _ h2⟩, ?_, ?_, ?_⟩⟩ <;> (simp only [World.frozen?_setCell]; assumption)
theorem GB.all {W : World} {g : Nat} {l d c : Int} (h : GB W g l d c) (l' d' c' : Int) : GB (((W.setCell ⟨g, 0, none⟩ (.int .i64 l')).setCell ⟨g, 1, none⟩ (.int .i64 d')).setCell ⟨g, 2, none⟩ (.int .i64 c')) g l' d' c' := (((h.one l').1.one d').2.1.one c').2.2
theorem GB.drew {W : World} {g : Nat} {l d c : Int} (h : GB W g l d c) : GB W.drew g l d c := h.below (belDr (belR _))
theorem GB.cells {W : World} {g k : Nat} {l d c : Int} {v0 v1 v2 : Value} (h : GB W g l d c) (hne : g ≠ k) : GB (((W.setCell ⟨k, 0, none⟩ v0).setCell ⟨k, 1, none⟩ v1).setCell ⟨k, 2, none⟩ v2) g l d c := ((h.cell hne).cell hne).cell hne
/-- what holds behind the first geometry -/
def PX (w : World) (c3 : Int) (W : World) : Prop := ∃ xl xd : Int, 5 ≤ xl ∧ xl ≤ 6 ∧ 3 ≤ xd ∧ xd ≤ 5 ∧ GB W (w.heap.size + 1 + 1 + 1) xl xd c3 ∧ GB W w.heap.size 0 0 0 ∧ GB W (w.heap.size + 1) 0 0 0 ∧ W.heap.size = w.heap.size + 4 ∧ Below w.heap.size w W
/-- what holds on the way, behind the second geometry -/
def PI (w : World) (g : Nat) (xl xd c3 c7 : Int) (W : World) : Prop := ∃ yl yd : Int, 5 ≤ yl ∧ yl ≤ 6 ∧ 3 ≤ yd ∧ yd ≤ 30 ∧ GB W g yl yd c7 ∧ GB W (w.heap.size + 1 + 1 + 1) xl xd c3 ∧ GB W w.heap.size 0 0 0 ∧ GB W (w.heap.size + 1) 0 0 0 ∧ Below w.heap.size w W
def PJ (w : World) (g : Nat) (xl xd c3 c7 : Int) (W : World) : Prop := ∃ yl yd : Int, 5 ≤ yl ∧ yl ≤ 6 ∧ 3 ≤ yd ∧ yd ≤ 31 ∧ GB W g yl yd c7 ∧ GB W (w.heap.size + 1 + 1 + 1) xl xd c3 ∧ GB W w.heap.size 0 0 0 ∧ GB W (w.heap.size + 1) 0 0 0 ∧ Below w.heap.size w W
def SomePair (w : World) (e : Ending) (w' : World) : Prop := ∃ l d c l' d' c' : Int, e = .returned (.tuple #[.agg #[.int .i64 l, .int .i64 d, .int .i64 c], .agg #[.int .i64 l', .int .i64 d', .int .i64 c']]) ∧ (Geo.mk l d c).In ∧ (Geo.mk l' d' c').In ∧ Below w.heap.size w w'
theorem pair_any (a b : Int) (w : World) (ha : i64b a) (hb : i64b b) : Calls Try.prog 48 #[.int .i64 a, .int .i64 b] w (SomePair w) := by
  have HA := Lib.hid (tdiv_in ha)
  have HB := Lib.hid (tdiv_in hb)
  have Ha := Lib.hid ha
  have Hb := Lib.hid hb
  obtain ⟨a1, a2⟩ := ha
  obtain ⟨b1, b2⟩ := hb
  go_enter Try.func48, Try.ntmps48
  go_wp2_with fail
  refine Calls.mono (within_ex a 2 _ (by decide) (by decide) Ha.out) ?_
  rintro e wa ⟨k2, rfl, hk2, rfl⟩
  go_wp2_with fail
  refine Calls.mono (within_ex (a.tdiv 2) 3 _ (by decide) (by decide) (HA.out _ (by decide))) ?_
  rintro e wa ⟨k3, rfl, hk3, rfl⟩
  have hk3' : (0 : Int) ≤ (k3 : Int) := by omega
  obtain ⟨c3, hc3, hc4, HC3⟩ := lit124 k3 hk3
  go_wp2_with fail
  refine Calls.mono (within_ex (a.tdiv 6) 4 _ (by decide) (by decide) (HA.out _ (by decide))) ?_
  rintro e wa ⟨k4, rfl, hk4, rfl⟩
  clear hc3 hk3 hk3'
  have hb : ((k4 : Int) == 3) = true ∨ ((k4 : Int) == 3) = false := by cases ((k4 : Int) == 3) <;> simp
  obtain ⟨wB, hwB⟩ : ∃ wB, wB = (((w.alloc (.cells #[.int .i64 0, .int .i64 0, .int .i64 0] 45)).alloc (.cells #[.int .i64 0, .int .i64 0, .int .i64 0] 45)).alloc (.cells #[.int .i64 1, .int .i64 2, .int .i64 4] 3)).alloc (.cells #[.int .i64 5, .int .i64 (3 + (k2 : Int)), .int .i64 (c3 : Int)] 45) := ⟨_, rfl⟩
  rw [← hwB]
  have R0 : GB wB w.heap.size 0 0 0 := by rw [hwB]; exact (GB.new w 0 0 0 _).below (belA3 (belR _))
  have R1 : GB wB (w.heap.size + 1) 0 0 0 := by rw [hwB]; have := (GB.new (w.alloc (.cells #[.int .i64 0, .int .i64 0, .int .i64 0] 45)) 0 0 0 45); simp only [World.size_alloc] at this; exact this.below (belA2 (belR _))
  have X0 : GB wB (w.heap.size + 1 + 1 + 1) 5 (3 + (k2 : Int)) c3 := by rw [hwB]; have := (GB.new (((w.alloc (.cells #[.int .i64 0, .int .i64 0, .int .i64 0] 45)).alloc (.cells #[.int .i64 0, .int .i64 0, .int .i64 0] 45)).alloc (.cells #[.int .i64 1, .int .i64 2, .int .i64 4] 3)) 5 (3 + (k2 : Int)) c3 45); simp only [World.size_alloc] at this; exact this
  have z0 : wB.heap.size = w.heap.size + 4 := by rw [hwB]; simp
  have B0 : Below w.heap.size w wB := by rw [hwB]; exact belA4 (belR _)
  have Z0 := Lib.hid z0
  clear hwB z0
  obtain ⟨bk, hbk⟩ : ∃ bk, ((k4 : Int) == 3) = bk := ⟨_, rfl⟩
  clear hb
  go_upto_if 25 with (fail)
  clear hbk
  go_cut [] from 26 (fun W => Hid (PX w c3 W))
  case first =>
    cases bk with
    | true =>
      have X1 := Lib.hid X0
      obtain ⟨⟨x0, x1, x2⟩, f0, f1, f2⟩ := X0
      go_wp2_with fail
      refine wp_region_held_drew (S := fun W => W.cell? ⟨w.heap.size + 1 + 1 + 1, 2, none⟩ = some (.int .i64 (c3 : Int))) (by kernel_rfl) (show World.cell? _ _ = _ from x2) (fun hHeld => ?_)
      refine wpAnyH_take (i := 0) (oi := _) (v := ?_) rfl (by kernel_rfl) (by kernel_rfl) (by kernel_rfl) (fun _ _ _ h => h) (Or.inl ⟨by rfl, ?_⟩) (by assumption) ?_
      rotate_left
      · intro w hSw
        (try dsimp only at hSw)
        go_simp
        try with_reducible rfl
      try simp only [Act.put, List.getElem_toArray, List.getElem_cons_zero, List.getElem_cons_succ, List.setIfInBounds_toArray, List.set_cons_zero, List.set_cons_succ]
      refine wpAnyH_take (i := 1) (oi := _) (v := ?_) rfl (by kernel_rfl) (by kernel_rfl) (by kernel_rfl) (fun _ _ _ h => h) (Or.inl ⟨by rfl, ?_⟩) (by assumption) ?_
      rotate_left
      · intro w hSw
        (try dsimp only at hSw)
        go_simp
        try with_reducible rfl
      try simp only [Act.put, List.getElem_toArray, List.getElem_cons_zero, List.getElem_cons_succ, List.setIfInBounds_toArray, List.set_cons_zero, List.set_cons_succ]
      refine wpAnyH_take (i := 4) (oi := _) (v := ?_) rfl (by kernel_rfl) (by kernel_rfl) (by kernel_rfl) (fun _ _ _ h => h) (Or.inl ⟨by rfl, ?_⟩) (by assumption) ?_
      rotate_left
      · intro w hSw
        (try dsimp only at hSw)
        go_simp
        try with_reducible rfl
      try simp only [Act.put, List.getElem_toArray, List.getElem_cons_zero, List.getElem_cons_succ, List.setIfInBounds_toArray, List.set_cons_zero, List.set_cons_succ]
      refine wpAnyH_take (i := 5) (oi := _) (v := ?_) rfl (by kernel_rfl) (by kernel_rfl) (by kernel_rfl) (fun _ _ _ h => h) (Or.inl ⟨by rfl, ?_⟩) (by assumption) ?_
      rotate_left
      · intro w hSw
        (try dsimp only at hSw)
        go_simp
        try with_reducible rfl
      try simp only [Act.put, List.getElem_toArray, List.getElem_cons_zero, List.getElem_cons_succ, List.setIfInBounds_toArray, List.set_cons_zero, List.set_cons_succ]
      refine wpAnyH_ready (rs := [2]) (by kernel_rfl) (by simp) ?_
      refine AllReadyH.cons (o := _) rfl (fun K hK => ?_) AllReadyH.nil
      go_simp
      refine Calls.mono (within_ex a 2 _ (by decide) (by decide) Ha.out) ?_
      rintro e wa ⟨k5, rfl, hk5, rfl⟩
      have kw : IntKind.i64.wrap (4 + (k5 : Int)) = 4 + (k5 : Int) := by rw [IntKind.wrap_i64]; omega
      try go_simp
      refine hK.out _ _ (show World.cell? _ _ = _ from x2) (fun hHeld => ?_)
      clear hK K
      try simp only [Act.put, List.getElem_toArray, List.getElem_cons_zero, List.getElem_cons_succ, List.setIfInBounds_toArray, List.set_cons_zero, List.set_cons_succ]
      refine wpAnyH_take (i := 3) (oi := _) (v := ?_) rfl (by kernel_rfl) (by kernel_rfl) (by kernel_rfl) (fun _ _ _ h => h) (Or.inl ⟨by rfl, ?_⟩) (by assumption) ?_
      rotate_left
      · intro w hSw
        (try dsimp only at hSw)
        go_simp
        try with_reducible rfl
      try simp only [Act.put, List.getElem_toArray, List.getElem_cons_zero, List.getElem_cons_succ, List.setIfInBounds_toArray, List.set_cons_zero, List.set_cons_succ]
      refine wpAnyH_take (i := 6) (oi := _) (v := ?_) rfl (by kernel_rfl) (by kernel_rfl) (by kernel_rfl) (fun _ _ _ h => h) (Or.inl ⟨by rfl, ?_⟩) (by assumption) ?_
      rotate_left
      · intro w hSw
        (try dsimp only at hSw)
        go_simp
        try with_reducible rfl
      try simp only [Act.put, List.getElem_toArray, List.getElem_cons_zero, List.getElem_cons_succ, List.setIfInBounds_toArray, List.set_cons_zero, List.set_cons_succ]
      refine wpAnyH_ready (rs := [7]) (by kernel_rfl) (by simp) ?_
      refine AllReadyH.cons (o := _) rfl (fun K hK => ?_) AllReadyH.nil
      go_simp
      have hG := (X1.out.all 6 (4 + (k5 : Int)) (c3 : Int)).drew
      refine hK.out _ _ hG.1.2.2 (fun hHeld => ?_)
      clear hK K
      try simp only [Act.put, List.getElem_toArray, List.getElem_cons_zero, List.getElem_cons_succ, List.setIfInBounds_toArray, List.set_cons_zero, List.set_cons_succ]
      refine wpAnyH_done (by kernel_rfl) ?_ _
      go_wp2
      go_meet
      case rel =>
        refine Lib.hid ⟨6, 4 + (k5 : Int), by omega, by omega, by omega, by omega, hG, (R0.cells (by omega)).drew, (R1.cells (by omega)).drew, ?_, ?_⟩
        · simp; exact Z0.out
        · exact belDr (((B0.setCell (by show w.heap.size ≤ w.heap.size + 1 + 1 + 1; omega) _).setCell (by show w.heap.size ≤ w.heap.size + 1 + 1 + 1; omega) _).setCell (by show w.heap.size ≤ w.heap.size + 1 + 1 + 1; omega) _)
    | false =>
      have O8 : Hid (PX w c3 wB) := ⟨5, 3 + (k2 : Int), by omega, by omega, by omega, by omega, X0, R0, R1, Z0.out, B0⟩
      go_wp2_with fail
      go_meet
      case rel => exact O8
  obtain ⟨xl, xd, xl1, xl2, xd1, xd2, X4, R04, R14, z4, B4⟩ := hcut.out
  have HZ4 := Lib.hid z4
  clear hcut R0 R1 X0 B0 Z0 z4
  go_wp2_with fail
  have hw3 : IntKind.i64.wrap (b.tdiv 3) = b.tdiv 3 := by have h9 := HB.out 3 (by decide); unfold i64b at h9; rw [IntKind.wrap_i64]; omega
  go_cut [8] from 33 to 48 (fun s W => ∃ (g : Nat) (yd : Int) (c7 : Nat), s = .pointer (some ⟨g, 0, none⟩) ∧ w.heap.size + 4 ≤ g ∧ g < W.heap.size ∧ GB W g xl yd c7 ∧ 3 ≤ yd ∧ yd ≤ 20 ∧ c7 ≤ 4 ∧ GB W (w.heap.size + 1 + 1 + 1) xl (xd) c3 ∧ GB W w.heap.size 0 0 0 ∧ GB W (w.heap.size + 1) 0 0 0 ∧ Below w.heap.size w W)
  case first =>
    refine wp_region_held_drew (S := fun W => W.cell? ⟨w.heap.size + 1 + 1 + 1, 0, none⟩ = some (.int .i64 xl) ∧ W.cell? ⟨w.heap.size + 1 + 1 + 1, 1, none⟩ = some (.int .i64 xd)) (by kernel_rfl) (show World.cell? _ _ = _ ∧ World.cell? _ _ = _ from ⟨X4.1.1, X4.1.2.1⟩) (fun hHeld => ?_)
    refine wpAnyH_take (i := 0) (oi := _) (v := ?_) rfl (by kernel_rfl) (by kernel_rfl) (by kernel_rfl) (fun _ _ _ h => h) (Or.inl ⟨by rfl, ?_⟩) (by assumption) ?_
    rotate_left
    · intro w hSw
      (try dsimp only at hSw)
      go_simp
      try with_reducible rfl
    try simp only [Act.put, List.getElem_toArray, List.getElem_cons_zero, List.getElem_cons_succ, List.setIfInBounds_toArray, List.set_cons_zero, List.set_cons_succ]
    refine wpAnyH_take (i := 2) (oi := _) (v := ?_) rfl (by kernel_rfl) (by kernel_rfl) (by kernel_rfl) (fun _ _ _ h => h) (Or.inl ⟨by rfl, ?_⟩) (by assumption) ?_
    rotate_left
    · intro w hSw
      (try dsimp only at hSw)
      go_simp
      try with_reducible rfl
    try simp only [Act.put, List.getElem_toArray, List.getElem_cons_zero, List.getElem_cons_succ, List.setIfInBounds_toArray, List.set_cons_zero, List.set_cons_succ]
    refine wpAnyH_take (i := 4) (oi := _) (v := ?_) rfl (by kernel_rfl) (by kernel_rfl) (by kernel_rfl) (fun _ _ _ h => h) (Or.inl ⟨by rfl, ?_⟩) (by assumption) ?_
    rotate_left
    · intro w hSw
      (try dsimp only at hSw)
      go_simp
      try with_reducible rfl
    try simp only [Act.put, List.getElem_toArray, List.getElem_cons_zero, List.getElem_cons_succ, List.setIfInBounds_toArray, List.set_cons_zero, List.set_cons_succ]
    refine wpAnyH_take (i := 5) (oi := _) (v := ?_) rfl (by kernel_rfl) (by kernel_rfl) (by kernel_rfl) (fun _ _ _ h => h) (Or.inl ⟨by rfl, ?_⟩) (by assumption) ?_
    rotate_left
    · intro w hSw
      (try dsimp only at hSw)
      go_simp
      try with_reducible rfl
    try simp only [Act.put, List.getElem_toArray, List.getElem_cons_zero, List.getElem_cons_succ, List.setIfInBounds_toArray, List.set_cons_zero, List.set_cons_succ]
    refine wpAnyH_take (i := 9) (oi := _) (v := ?_) rfl (by kernel_rfl) (by kernel_rfl) (by kernel_rfl) (fun _ _ _ h => h) (Or.inl ⟨by rfl, ?_⟩) (by assumption) ?_
    rotate_left
    · intro w hSw
      (try dsimp only at hSw)
      go_simp
      try with_reducible rfl
    try simp only [Act.put, List.getElem_toArray, List.getElem_cons_zero, List.getElem_cons_succ, List.setIfInBounds_toArray, List.set_cons_zero, List.set_cons_succ]
    refine wpAnyH_take (i := 10) (oi := _) (v := ?_) rfl (by kernel_rfl) (by kernel_rfl) (by kernel_rfl) (fun _ _ _ h => h) (Or.inl ⟨by rfl, ?_⟩) (by assumption) ?_
    rotate_left
    · intro w hSw
      (try dsimp only at hSw)
      go_simp
      try with_reducible rfl
    try simp only [Act.put, List.getElem_toArray, List.getElem_cons_zero, List.getElem_cons_succ, List.setIfInBounds_toArray, List.set_cons_zero, List.set_cons_succ]
    refine wpAnyH_take (i := 1) (oi := _) (v := ?_) rfl (by kernel_rfl) (by kernel_rfl) (by kernel_rfl) (fun _ _ _ h => h) (Or.inl ⟨by rfl, ?_⟩) (by assumption) ?_
    rotate_left
    · intro w hSw
      (try dsimp only at hSw)
      go_simp
      try with_reducible rfl
    try simp only [Act.put, List.getElem_toArray, List.getElem_cons_zero, List.getElem_cons_succ, List.setIfInBounds_toArray, List.set_cons_zero, List.set_cons_succ]
    refine wpAnyH_take (i := 3) (oi := _) (v := ?_) rfl (by kernel_rfl) (by kernel_rfl) (by kernel_rfl) (fun _ _ _ h => h) (Or.inl ⟨by rfl, ?_⟩) (by assumption) ?_
    rotate_left
    · intro w hSw
      (try dsimp only at hSw)
      go_simp
      try with_reducible rfl
    try simp only [Act.put, List.getElem_toArray, List.getElem_cons_zero, List.getElem_cons_succ, List.setIfInBounds_toArray, List.set_cons_zero, List.set_cons_succ]
    refine wpAnyH_take (i := 11) (oi := _) (v := ?_) rfl (by kernel_rfl) (by kernel_rfl) (by kernel_rfl) (fun _ _ _ h => h) (Or.inl ⟨by rfl, ?_⟩) (by assumption) ?_
    rotate_left
    · intro w hSw
      (try dsimp only at hSw)
      go_simp
      try with_reducible rfl
    try simp only [Act.put, List.getElem_toArray, List.getElem_cons_zero, List.getElem_cons_succ, List.setIfInBounds_toArray, List.set_cons_zero, List.set_cons_succ]
    refine wpAnyH_ready (rs := [6, 8, 16]) (by kernel_rfl) (by simp) ?_
    refine AllReadyH.cons (o := _) rfl (fun K hK => ?_) (AllReadyH.cons (o := _) rfl (fun K hK => ?_) (AllReadyH.cons (o := _) rfl (fun K hK => ?_) AllReadyH.nil))
    · go_simp
      refine Calls.mono (within_ex b 3 _ (by decide) (by decide) Hb.out) ?_
      rintro e wa ⟨k6, rfl, hk6, rfl⟩
      have kw : IntKind.i64.wrap (xd + (k6 : Int)) = xd + (k6 : Int) := by rw [IntKind.wrap_i64]; omega
      try go_simp
      refine hK.out _ _ (show World.cell? _ _ = _ ∧ World.cell? _ _ = _ from ⟨(X4.below (belDr (belR _))).1.1, (X4.below (belDr (belR _))).1.2.1⟩) (fun hHeld => ?_)
      clear hK K
      try simp only [Act.put, List.getElem_toArray, List.getElem_cons_zero, List.getElem_cons_succ, List.setIfInBounds_toArray, List.set_cons_zero, List.set_cons_succ]
      refine wpAnyH_take (i := 7) (oi := _) (v := ?_) rfl (by kernel_rfl) (by kernel_rfl) (by kernel_rfl) (fun _ _ _ h => h) (Or.inl ⟨by rfl, ?_⟩) (by assumption) ?_
      rotate_left
      · intro w hSw
        (try dsimp only at hSw)
        go_simp
        try with_reducible rfl
      try simp only [Act.put, List.getElem_toArray, List.getElem_cons_zero, List.getElem_cons_succ, List.setIfInBounds_toArray, List.set_cons_zero, List.set_cons_succ]
      refine wpAnyH_ready (rs := [8, 12, 16]) (by kernel_rfl) (by simp) ?_
      refine AllReadyH.cons (o := _) rfl (fun K hK => ?_) (AllReadyH.cons (o := _) rfl (fun K hK => ?_) (AllReadyH.cons (o := _) rfl (fun K hK => ?_) AllReadyH.nil))
      · go_simp
        refine hK.out _ _ (show World.cell? _ _ = _ ∧ World.cell? _ _ = _ from ⟨(X4.below (belDr (belA1 (belR _)))).1.1, (X4.below (belDr (belA1 (belR _)))).1.2.1⟩) (fun hHeld => ?_)
        clear hK K
        try simp only [Act.put, List.getElem_toArray, List.getElem_cons_zero, List.getElem_cons_succ, List.setIfInBounds_toArray, List.set_cons_zero, List.set_cons_succ]
        refine wpAnyH_ready (rs := [12, 16]) (by kernel_rfl) (by simp) ?_
        refine AllReadyH.cons (o := _) rfl (fun K hK => ?_) (AllReadyH.cons (o := _) rfl (fun K hK => ?_) AllReadyH.nil)
        · go_simp
          refine Calls.mono (within_ex (b.tdiv 3) 3 _ (by decide) (by decide) (HB.out _ (by decide))) ?_
          rintro e wa ⟨k7, rfl, hk7, rfl⟩
          have hk7' : (0 : Int) ≤ (k7 : Int) := by omega
          obtain ⟨c7, hc7, hc74, HC7⟩ := lit124 k7 hk7
          try go_simp
          refine hK.out _ _ (show World.cell? _ _ = _ ∧ World.cell? _ _ = _ from ⟨(X4.below (belDr (belA1 (belR _)))).1.1, (X4.below (belDr (belA1 (belR _)))).1.2.1⟩) (fun hHeld => ?_)
          clear hK K
          try simp only [Act.put, List.getElem_toArray, List.getElem_cons_zero, List.getElem_cons_succ, List.setIfInBounds_toArray, List.set_cons_zero, List.set_cons_succ]
          refine wpAnyH_take (i := 13) (oi := _) (v := ?_) rfl (by kernel_rfl) (by kernel_rfl) (by kernel_rfl) (fun _ _ _ h => h) (Or.inl ⟨by rfl, ?_⟩) (by assumption) ?_
          rotate_left
          · intro w hSw
            (try dsimp only at hSw)
            go_simp
            try with_reducible rfl
          try simp only [Act.put, List.getElem_toArray, List.getElem_cons_zero, List.getElem_cons_succ, List.setIfInBounds_toArray, List.set_cons_zero, List.set_cons_succ]
          refine wpAnyH_ready (rs := [14, 16]) (by kernel_rfl) (by simp) ?_
          refine AllReadyH.cons (o := _) rfl (fun K hK => ?_) (AllReadyH.cons (o := _) rfl (fun K hK => ?_) AllReadyH.nil)
          · go_simp
            refine hK.out _ _ (show World.cell? _ _ = _ ∧ World.cell? _ _ = _ from ⟨(X4.below (belDr (belA1 (belR _)))).1.1, (X4.below (belDr (belA1 (belR _)))).1.2.1⟩) (fun hHeld => ?_)
            clear hK K
            try simp only [Act.put, List.getElem_toArray, List.getElem_cons_zero, List.getElem_cons_succ, List.setIfInBounds_toArray, List.set_cons_zero, List.set_cons_succ]
            refine wpAnyH_take (i := 15) (oi := _) (v := ?_) rfl (by kernel_rfl) (by kernel_rfl) (by kernel_rfl) (fun _ _ _ h => h) (Or.inl ⟨by rfl, ?_⟩) (by assumption) ?_
            rotate_left
            · intro w hSw
              (try dsimp only at hSw)
              go_simp
              try with_reducible rfl
            try simp only [Act.put, List.getElem_toArray, List.getElem_cons_zero, List.getElem_cons_succ, List.setIfInBounds_toArray, List.set_cons_zero, List.set_cons_succ]
            refine wpAnyH_ready (rs := [16]) (by kernel_rfl) (by simp) ?_
            refine AllReadyH.cons (o := _) rfl (fun K hK => ?_) AllReadyH.nil
            go_simp
            refine hK.out _ _ (show World.cell? _ _ = _ ∧ World.cell? _ _ = _ from ⟨(X4.below (belDr (belA1 (belA1 (belR _))))).1.1, (X4.below (belDr (belA1 (belA1 (belR _))))).1.2.1⟩) (fun hHeld => ?_)
            clear hK K
            try simp only [Act.put, List.getElem_toArray, List.getElem_cons_zero, List.getElem_cons_succ, List.setIfInBounds_toArray, List.set_cons_zero, List.set_cons_succ]
            refine wpAnyH_ready (rs := [17]) (by kernel_rfl) (by simp) ?_
            refine AllReadyH.cons (o := _) rfl (fun K hK => ?_) AllReadyH.nil
            go_simp
            have HG : GB ((wc.alloc (.cells #[.int .i64 1, .int .i64 2, .int .i64 4] 3)).alloc (.cells #[.int .i64 xl, .int .i64 (xd + (k6 : Int)), .int .i64 (c7 : Int)] 45)).drew (wc.heap.size + 1) xl (xd + (k6 : Int)) c7 := (by have := GB.new (wc.alloc (.cells #[.int .i64 1, .int .i64 2, .int .i64 4] 3)) xl (xd + (k6 : Int)) c7 45; simp only [World.size_alloc] at this; exact this.drew)
            refine hK.out _ _ ⟨(X4.below (belDr (belA2 (belR _)))).1.1, (X4.below (belDr (belA2 (belR _)))).1.2.1⟩ (fun hHeld => ?_)
            clear hK K
            try simp only [Act.put, List.getElem_toArray, List.getElem_cons_zero, List.getElem_cons_succ, List.setIfInBounds_toArray, List.set_cons_zero, List.set_cons_succ]
            refine wpAnyH_done (by kernel_rfl) ?_ _
            go_wp2
            go_meet
            case rel => exact ⟨wc.heap.size + 1, xd + (k6 : Int), c7, rfl, by have := HZ4.out; omega, (by simp <;> omega), HG, by omega, by omega, by omega, X4.below (belDr (belA2 (belR _))), R04.below (belDr (belA2 (belR _))), R14.below (belDr (belA2 (belR _))), belDr (belA2 B4)⟩
          · go_simp
            refine hK.out _ _ (show World.cell? _ _ = _ ∧ World.cell? _ _ = _ from ⟨(X4.below (belDr (belA1 (belA1 (belR _))))).1.1, (X4.below (belDr (belA1 (belA1 (belR _))))).1.2.1⟩) (fun hHeld => ?_)
            clear hK K
            try simp only [Act.put, List.getElem_toArray, List.getElem_cons_zero, List.getElem_cons_succ, List.setIfInBounds_toArray, List.set_cons_zero, List.set_cons_succ]
            refine wpAnyH_ready (rs := [14]) (by kernel_rfl) (by simp) ?_
            refine AllReadyH.cons (o := _) rfl (fun K hK => ?_) AllReadyH.nil
            go_simp
            refine hK.out _ _ (show World.cell? _ _ = _ ∧ World.cell? _ _ = _ from ⟨(X4.below (belDr (belA1 (belA1 (belR _))))).1.1, (X4.below (belDr (belA1 (belA1 (belR _))))).1.2.1⟩) (fun hHeld => ?_)
            clear hK K
            try simp only [Act.put, List.getElem_toArray, List.getElem_cons_zero, List.getElem_cons_succ, List.setIfInBounds_toArray, List.set_cons_zero, List.set_cons_succ]
            refine wpAnyH_take (i := 15) (oi := _) (v := ?_) rfl (by kernel_rfl) (by kernel_rfl) (by kernel_rfl) (fun _ _ _ h => h) (Or.inl ⟨by rfl, ?_⟩) (by assumption) ?_
            rotate_left
            · intro w hSw
              (try dsimp only at hSw)
              go_simp
              try with_reducible rfl
            try simp only [Act.put, List.getElem_toArray, List.getElem_cons_zero, List.getElem_cons_succ, List.setIfInBounds_toArray, List.set_cons_zero, List.set_cons_succ]
            refine wpAnyH_ready (rs := [17]) (by kernel_rfl) (by simp) ?_
            refine AllReadyH.cons (o := _) rfl (fun K hK => ?_) AllReadyH.nil
            go_simp
            have HG : GB ((wc.alloc (.cells #[.int .i64 1, .int .i64 2, .int .i64 4] 3)).alloc (.cells #[.int .i64 xl, .int .i64 (xd + (k6 : Int)), .int .i64 (c7 : Int)] 45)).drew (wc.heap.size + 1) xl (xd + (k6 : Int)) c7 := (by have := GB.new (wc.alloc (.cells #[.int .i64 1, .int .i64 2, .int .i64 4] 3)) xl (xd + (k6 : Int)) c7 45; simp only [World.size_alloc] at this; exact this.drew)
            refine hK.out _ _ ⟨(X4.below (belDr (belA2 (belR _)))).1.1, (X4.below (belDr (belA2 (belR _)))).1.2.1⟩ (fun hHeld => ?_)
            clear hK K
            try simp only [Act.put, List.getElem_toArray, List.getElem_cons_zero, List.getElem_cons_succ, List.setIfInBounds_toArray, List.set_cons_zero, List.set_cons_succ]
            refine wpAnyH_done (by kernel_rfl) ?_ _
            go_wp2
            go_meet
            case rel => exact ⟨wc.heap.size + 1, xd + (k6 : Int), c7, rfl, by have := HZ4.out; omega, (by simp <;> omega), HG, by omega, by omega, by omega, X4.below (belDr (belA2 (belR _))), R04.below (belDr (belA2 (belR _))), R14.below (belDr (belA2 (belR _))), belDr (belA2 B4)⟩
        · go_simp
          refine hK.out _ _ (show World.cell? _ _ = _ ∧ World.cell? _ _ = _ from ⟨(X4.below (belDr (belA1 (belA1 (belR _))))).1.1, (X4.below (belDr (belA1 (belA1 (belR _))))).1.2.1⟩) (fun hHeld => ?_)
          clear hK K
          try simp only [Act.put, List.getElem_toArray, List.getElem_cons_zero, List.getElem_cons_succ, List.setIfInBounds_toArray, List.set_cons_zero, List.set_cons_succ]
          refine wpAnyH_ready (rs := [12]) (by kernel_rfl) (by simp) ?_
          refine AllReadyH.cons (o := _) rfl (fun K hK => ?_) AllReadyH.nil
          go_simp
          refine Calls.mono (within_ex (b.tdiv 3) 3 _ (by decide) (by decide) (HB.out _ (by decide))) ?_
          rintro e wa ⟨k7, rfl, hk7, rfl⟩
          have hk7' : (0 : Int) ≤ (k7 : Int) := by omega
          obtain ⟨c7, hc7, hc74, HC7⟩ := lit124 k7 hk7
          try go_simp
          refine hK.out _ _ (show World.cell? _ _ = _ ∧ World.cell? _ _ = _ from ⟨(X4.below (belDr (belA1 (belA1 (belR _))))).1.1, (X4.below (belDr (belA1 (belA1 (belR _))))).1.2.1⟩) (fun hHeld => ?_)
          clear hK K
          try simp only [Act.put, List.getElem_toArray, List.getElem_cons_zero, List.getElem_cons_succ, List.setIfInBounds_toArray, List.set_cons_zero, List.set_cons_succ]
          refine wpAnyH_take (i := 13) (oi := _) (v := ?_) rfl (by kernel_rfl) (by kernel_rfl) (by kernel_rfl) (fun _ _ _ h => h) (Or.inl ⟨by rfl, ?_⟩) (by assumption) ?_
          rotate_left
          · intro w hSw
            (try dsimp only at hSw)
            go_simp
            try with_reducible rfl
          try simp only [Act.put, List.getElem_toArray, List.getElem_cons_zero, List.getElem_cons_succ, List.setIfInBounds_toArray, List.set_cons_zero, List.set_cons_succ]
          refine wpAnyH_ready (rs := [14]) (by kernel_rfl) (by simp) ?_
          refine AllReadyH.cons (o := _) rfl (fun K hK => ?_) AllReadyH.nil
          go_simp
          refine hK.out _ _ (show World.cell? _ _ = _ ∧ World.cell? _ _ = _ from ⟨(X4.below (belDr (belA1 (belA1 (belR _))))).1.1, (X4.below (belDr (belA1 (belA1 (belR _))))).1.2.1⟩) (fun hHeld => ?_)
          clear hK K
          try simp only [Act.put, List.getElem_toArray, List.getElem_cons_zero, List.getElem_cons_succ, List.setIfInBounds_toArray, List.set_cons_zero, List.set_cons_succ]
          refine wpAnyH_take (i := 15) (oi := _) (v := ?_) rfl (by kernel_rfl) (by kernel_rfl) (by kernel_rfl) (fun _ _ _ h => h) (Or.inl ⟨by rfl, ?_⟩) (by assumption) ?_
          rotate_left
          · intro w hSw
            (try dsimp only at hSw)
            go_simp
            try with_reducible rfl
          try simp only [Act.put, List.getElem_toArray, List.getElem_cons_zero, List.getElem_cons_succ, List.setIfInBounds_toArray, List.set_cons_zero, List.set_cons_succ]
          refine wpAnyH_ready (rs := [17]) (by kernel_rfl) (by simp) ?_
          refine AllReadyH.cons (o := _) rfl (fun K hK => ?_) AllReadyH.nil
          go_simp
          have HG : GB ((wc.alloc (.cells #[.int .i64 1, .int .i64 2, .int .i64 4] 3)).alloc (.cells #[.int .i64 xl, .int .i64 (xd + (k6 : Int)), .int .i64 (c7 : Int)] 45)).drew (wc.heap.size + 1) xl (xd + (k6 : Int)) c7 := (by have := GB.new (wc.alloc (.cells #[.int .i64 1, .int .i64 2, .int .i64 4] 3)) xl (xd + (k6 : Int)) c7 45; simp only [World.size_alloc] at this; exact this.drew)
          refine hK.out _ _ ⟨(X4.below (belDr (belA2 (belR _)))).1.1, (X4.below (belDr (belA2 (belR _)))).1.2.1⟩ (fun hHeld => ?_)
          clear hK K
          try simp only [Act.put, List.getElem_toArray, List.getElem_cons_zero, List.getElem_cons_succ, List.setIfInBounds_toArray, List.set_cons_zero, List.set_cons_succ]
          refine wpAnyH_done (by kernel_rfl) ?_ _
          go_wp2
          go_meet
          case rel => exact ⟨wc.heap.size + 1, xd + (k6 : Int), c7, rfl, by have := HZ4.out; omega, (by simp <;> omega), HG, by omega, by omega, by omega, X4.below (belDr (belA2 (belR _))), R04.below (belDr (belA2 (belR _))), R14.below (belDr (belA2 (belR _))), belDr (belA2 B4)⟩
      · go_simp
        refine Calls.mono (within_ex (b.tdiv 3) 3 _ (by decide) (by decide) (HB.out _ (by decide))) ?_
        rintro e wa ⟨k7, rfl, hk7, rfl⟩
        have hk7' : (0 : Int) ≤ (k7 : Int) := by omega
        obtain ⟨c7, hc7, hc74, HC7⟩ := lit124 k7 hk7
        try go_simp
        refine hK.out _ _ (show World.cell? _ _ = _ ∧ World.cell? _ _ = _ from ⟨(X4.below (belDr (belR _))).1.1, (X4.below (belDr (belR _))).1.2.1⟩) (fun hHeld => ?_)
        clear hK K
        try simp only [Act.put, List.getElem_toArray, List.getElem_cons_zero, List.getElem_cons_succ, List.setIfInBounds_toArray, List.set_cons_zero, List.set_cons_succ]
        refine wpAnyH_ready (rs := [8, 16]) (by kernel_rfl) (by simp) ?_
        refine AllReadyH.cons (o := _) rfl (fun K hK => ?_) (AllReadyH.cons (o := _) rfl (fun K hK => ?_) AllReadyH.nil)
        · go_simp
          refine hK.out _ _ (show World.cell? _ _ = _ ∧ World.cell? _ _ = _ from ⟨(X4.below (belDr (belA1 (belR _)))).1.1, (X4.below (belDr (belA1 (belR _)))).1.2.1⟩) (fun hHeld => ?_)
          clear hK K
          try simp only [Act.put, List.getElem_toArray, List.getElem_cons_zero, List.getElem_cons_succ, List.setIfInBounds_toArray, List.set_cons_zero, List.set_cons_succ]
          refine wpAnyH_take (i := 13) (oi := _) (v := ?_) rfl (by kernel_rfl) (by kernel_rfl) (by kernel_rfl) (fun _ _ _ h => h) (Or.inl ⟨by rfl, ?_⟩) (by assumption) ?_
          rotate_left
          · intro w hSw
            (try dsimp only at hSw)
            go_simp
            try with_reducible rfl
          try simp only [Act.put, List.getElem_toArray, List.getElem_cons_zero, List.getElem_cons_succ, List.setIfInBounds_toArray, List.set_cons_zero, List.set_cons_succ]
          refine wpAnyH_ready (rs := [14, 16]) (by kernel_rfl) (by simp) ?_
          refine AllReadyH.cons (o := _) rfl (fun K hK => ?_) (AllReadyH.cons (o := _) rfl (fun K hK => ?_) AllReadyH.nil)
          · go_simp
            refine hK.out _ _ (show World.cell? _ _ = _ ∧ World.cell? _ _ = _ from ⟨(X4.below (belDr (belA1 (belR _)))).1.1, (X4.below (belDr (belA1 (belR _)))).1.2.1⟩) (fun hHeld => ?_)
            clear hK K
            try simp only [Act.put, List.getElem_toArray, List.getElem_cons_zero, List.getElem_cons_succ, List.setIfInBounds_toArray, List.set_cons_zero, List.set_cons_succ]
            refine wpAnyH_take (i := 15) (oi := _) (v := ?_) rfl (by kernel_rfl) (by kernel_rfl) (by kernel_rfl) (fun _ _ _ h => h) (Or.inl ⟨by rfl, ?_⟩) (by assumption) ?_
            rotate_left
            · intro w hSw
              (try dsimp only at hSw)
              go_simp
              try with_reducible rfl
            try simp only [Act.put, List.getElem_toArray, List.getElem_cons_zero, List.getElem_cons_succ, List.setIfInBounds_toArray, List.set_cons_zero, List.set_cons_succ]
            refine wpAnyH_ready (rs := [16]) (by kernel_rfl) (by simp) ?_
            refine AllReadyH.cons (o := _) rfl (fun K hK => ?_) AllReadyH.nil
            go_simp
            refine hK.out _ _ (show World.cell? _ _ = _ ∧ World.cell? _ _ = _ from ⟨(X4.below (belDr (belA1 (belA1 (belR _))))).1.1, (X4.below (belDr (belA1 (belA1 (belR _))))).1.2.1⟩) (fun hHeld => ?_)
            clear hK K
            try simp only [Act.put, List.getElem_toArray, List.getElem_cons_zero, List.getElem_cons_succ, List.setIfInBounds_toArray, List.set_cons_zero, List.set_cons_succ]
            refine wpAnyH_ready (rs := [17]) (by kernel_rfl) (by simp) ?_
            refine AllReadyH.cons (o := _) rfl (fun K hK => ?_) AllReadyH.nil
            go_simp
            have HG : GB ((wc.alloc (.cells #[.int .i64 1, .int .i64 2, .int .i64 4] 3)).alloc (.cells #[.int .i64 xl, .int .i64 (xd + (k6 : Int)), .int .i64 (c7 : Int)] 45)).drew (wc.heap.size + 1) xl (xd + (k6 : Int)) c7 := (by have := GB.new (wc.alloc (.cells #[.int .i64 1, .int .i64 2, .int .i64 4] 3)) xl (xd + (k6 : Int)) c7 45; simp only [World.size_alloc] at this; exact this.drew)
            refine hK.out _ _ ⟨(X4.below (belDr (belA2 (belR _)))).1.1, (X4.below (belDr (belA2 (belR _)))).1.2.1⟩ (fun hHeld => ?_)
            clear hK K
            try simp only [Act.put, List.getElem_toArray, List.getElem_cons_zero, List.getElem_cons_succ, List.setIfInBounds_toArray, List.set_cons_zero, List.set_cons_succ]
            refine wpAnyH_done (by kernel_rfl) ?_ _
            go_wp2
            go_meet
            case rel => exact ⟨wc.heap.size + 1, xd + (k6 : Int), c7, rfl, by have := HZ4.out; omega, (by simp <;> omega), HG, by omega, by omega, by omega, X4.below (belDr (belA2 (belR _))), R04.below (belDr (belA2 (belR _))), R14.below (belDr (belA2 (belR _))), belDr (belA2 B4)⟩
          · go_simp
            refine hK.out _ _ (show World.cell? _ _ = _ ∧ World.cell? _ _ = _ from ⟨(X4.below (belDr (belA1 (belA1 (belR _))))).1.1, (X4.below (belDr (belA1 (belA1 (belR _))))).1.2.1⟩) (fun hHeld => ?_)
            clear hK K
            try simp only [Act.put, List.getElem_toArray, List.getElem_cons_zero, List.getElem_cons_succ, List.setIfInBounds_toArray, List.set_cons_zero, List.set_cons_succ]
            refine wpAnyH_ready (rs := [14]) (by kernel_rfl) (by simp) ?_
            refine AllReadyH.cons (o := _) rfl (fun K hK => ?_) AllReadyH.nil
            go_simp
            refine hK.out _ _ (show World.cell? _ _ = _ ∧ World.cell? _ _ = _ from ⟨(X4.below (belDr (belA1 (belA1 (belR _))))).1.1, (X4.below (belDr (belA1 (belA1 (belR _))))).1.2.1⟩) (fun hHeld => ?_)
            clear hK K
            try simp only [Act.put, List.getElem_toArray, List.getElem_cons_zero, List.getElem_cons_succ, List.setIfInBounds_toArray, List.set_cons_zero, List.set_cons_succ]
            refine wpAnyH_take (i := 15) (oi := _) (v := ?_) rfl (by kernel_rfl) (by kernel_rfl) (by kernel_rfl) (fun _ _ _ h => h) (Or.inl ⟨by rfl, ?_⟩) (by assumption) ?_
            rotate_left
            · intro w hSw
              (try dsimp only at hSw)
              go_simp
              try with_reducible rfl
            try simp only [Act.put, List.getElem_toArray, List.getElem_cons_zero, List.getElem_cons_succ, List.setIfInBounds_toArray, List.set_cons_zero, List.set_cons_succ]
            refine wpAnyH_ready (rs := [17]) (by kernel_rfl) (by simp) ?_
            refine AllReadyH.cons (o := _) rfl (fun K hK => ?_) AllReadyH.nil
            go_simp
            have HG : GB ((wc.alloc (.cells #[.int .i64 1, .int .i64 2, .int .i64 4] 3)).alloc (.cells #[.int .i64 xl, .int .i64 (xd + (k6 : Int)), .int .i64 (c7 : Int)] 45)).drew (wc.heap.size + 1) xl (xd + (k6 : Int)) c7 := (by have := GB.new (wc.alloc (.cells #[.int .i64 1, .int .i64 2, .int .i64 4] 3)) xl (xd + (k6 : Int)) c7 45; simp only [World.size_alloc] at this; exact this.drew)
            refine hK.out _ _ ⟨(X4.below (belDr (belA2 (belR _)))).1.1, (X4.below (belDr (belA2 (belR _)))).1.2.1⟩ (fun hHeld => ?_)
            clear hK K
            try simp only [Act.put, List.getElem_toArray, List.getElem_cons_zero, List.getElem_cons_succ, List.setIfInBounds_toArray, List.set_cons_zero, List.set_cons_succ]
            refine wpAnyH_done (by kernel_rfl) ?_ _
            go_wp2
            go_meet
            case rel => exact ⟨wc.heap.size + 1, xd + (k6 : Int), c7, rfl, by have := HZ4.out; omega, (by simp <;> omega), HG, by omega, by omega, by omega, X4.below (belDr (belA2 (belR _))), R04.below (belDr (belA2 (belR _))), R14.below (belDr (belA2 (belR _))), belDr (belA2 B4)⟩
        · go_simp
          refine hK.out _ _ (show World.cell? _ _ = _ ∧ World.cell? _ _ = _ from ⟨(X4.below (belDr (belA1 (belR _)))).1.1, (X4.below (belDr (belA1 (belR _)))).1.2.1⟩) (fun hHeld => ?_)
          clear hK K
          try simp only [Act.put, List.getElem_toArray, List.getElem_cons_zero, List.getElem_cons_succ, List.setIfInBounds_toArray, List.set_cons_zero, List.set_cons_succ]
          refine wpAnyH_ready (rs := [8]) (by kernel_rfl) (by simp) ?_
          refine AllReadyH.cons (o := _) rfl (fun K hK => ?_) AllReadyH.nil
          go_simp
          refine hK.out _ _ (show World.cell? _ _ = _ ∧ World.cell? _ _ = _ from ⟨(X4.below (belDr (belA1 (belA1 (belR _))))).1.1, (X4.below (belDr (belA1 (belA1 (belR _))))).1.2.1⟩) (fun hHeld => ?_)
          clear hK K
          try simp only [Act.put, List.getElem_toArray, List.getElem_cons_zero, List.getElem_cons_succ, List.setIfInBounds_toArray, List.set_cons_zero, List.set_cons_succ]
          refine wpAnyH_take (i := 13) (oi := _) (v := ?_) rfl (by kernel_rfl) (by kernel_rfl) (by kernel_rfl) (fun _ _ _ h => h) (Or.inl ⟨by rfl, ?_⟩) (by assumption) ?_
          rotate_left
          · intro w hSw
            (try dsimp only at hSw)
            go_simp
            try with_reducible rfl
          try simp only [Act.put, List.getElem_toArray, List.getElem_cons_zero, List.getElem_cons_succ, List.setIfInBounds_toArray, List.set_cons_zero, List.set_cons_succ]
          refine wpAnyH_ready (rs := [14]) (by kernel_rfl) (by simp) ?_
          refine AllReadyH.cons (o := _) rfl (fun K hK => ?_) AllReadyH.nil
          go_simp
          refine hK.out _ _ (show World.cell? _ _ = _ ∧ World.cell? _ _ = _ from ⟨(X4.below (belDr (belA1 (belA1 (belR _))))).1.1, (X4.below (belDr (belA1 (belA1 (belR _))))).1.2.1⟩) (fun hHeld => ?_)
          clear hK K
          try simp only [Act.put, List.getElem_toArray, List.getElem_cons_zero, List.getElem_cons_succ, List.setIfInBounds_toArray, List.set_cons_zero, List.set_cons_succ]
          refine wpAnyH_take (i := 15) (oi := _) (v := ?_) rfl (by kernel_rfl) (by kernel_rfl) (by kernel_rfl) (fun _ _ _ h => h) (Or.inl ⟨by rfl, ?_⟩) (by assumption) ?_
          rotate_left
          · intro w hSw
            (try dsimp only at hSw)
            go_simp
            try with_reducible rfl
          try simp only [Act.put, List.getElem_toArray, List.getElem_cons_zero, List.getElem_cons_succ, List.setIfInBounds_toArray, List.set_cons_zero, List.set_cons_succ]
          refine wpAnyH_ready (rs := [17]) (by kernel_rfl) (by simp) ?_
          refine AllReadyH.cons (o := _) rfl (fun K hK => ?_) AllReadyH.nil
          go_simp
          have HG : GB ((wc.alloc (.cells #[.int .i64 xl, .int .i64 (xd + (k6 : Int)), .int .i64 (c7 : Int)] 45)).alloc (.cells #[.int .i64 1, .int .i64 2, .int .i64 4] 3)).drew wc.heap.size xl (xd + (k6 : Int)) c7 := ((GB.new wc xl (xd + (k6 : Int)) c7 45).below (belA1 (belR _))).drew
          refine hK.out _ _ ⟨(X4.below (belDr (belA2 (belR _)))).1.1, (X4.below (belDr (belA2 (belR _)))).1.2.1⟩ (fun hHeld => ?_)
          clear hK K
          try simp only [Act.put, List.getElem_toArray, List.getElem_cons_zero, List.getElem_cons_succ, List.setIfInBounds_toArray, List.set_cons_zero, List.set_cons_succ]
          refine wpAnyH_done (by kernel_rfl) ?_ _
          go_wp2
          go_meet
          case rel => exact ⟨wc.heap.size, xd + (k6 : Int), c7, rfl, by have := HZ4.out; omega, (by simp <;> omega), HG, by omega, by omega, by omega, X4.below (belDr (belA2 (belR _))), R04.below (belDr (belA2 (belR _))), R14.below (belDr (belA2 (belR _))), belDr (belA2 B4)⟩
      · go_simp
        refine hK.out _ _ (show World.cell? _ _ = _ ∧ World.cell? _ _ = _ from ⟨(X4.below (belDr (belA1 (belR _)))).1.1, (X4.below (belDr (belA1 (belR _)))).1.2.1⟩) (fun hHeld => ?_)
        clear hK K
        try simp only [Act.put, List.getElem_toArray, List.getElem_cons_zero, List.getElem_cons_succ, List.setIfInBounds_toArray, List.set_cons_zero, List.set_cons_succ]
        refine wpAnyH_ready (rs := [8, 12]) (by kernel_rfl) (by simp) ?_
        refine AllReadyH.cons (o := _) rfl (fun K hK => ?_) (AllReadyH.cons (o := _) rfl (fun K hK => ?_) AllReadyH.nil)
        · go_simp
          refine hK.out _ _ (show World.cell? _ _ = _ ∧ World.cell? _ _ = _ from ⟨(X4.below (belDr (belA1 (belA1 (belR _))))).1.1, (X4.below (belDr (belA1 (belA1 (belR _))))).1.2.1⟩) (fun hHeld => ?_)
          clear hK K
          try simp only [Act.put, List.getElem_toArray, List.getElem_cons_zero, List.getElem_cons_succ, List.setIfInBounds_toArray, List.set_cons_zero, List.set_cons_succ]
          refine wpAnyH_ready (rs := [12]) (by kernel_rfl) (by simp) ?_
          refine AllReadyH.cons (o := _) rfl (fun K hK => ?_) AllReadyH.nil
          go_simp
          refine Calls.mono (within_ex (b.tdiv 3) 3 _ (by decide) (by decide) (HB.out _ (by decide))) ?_
          rintro e wa ⟨k7, rfl, hk7, rfl⟩
          have hk7' : (0 : Int) ≤ (k7 : Int) := by omega
          obtain ⟨c7, hc7, hc74, HC7⟩ := lit124 k7 hk7
          try go_simp
          refine hK.out _ _ (show World.cell? _ _ = _ ∧ World.cell? _ _ = _ from ⟨(X4.below (belDr (belA1 (belA1 (belR _))))).1.1, (X4.below (belDr (belA1 (belA1 (belR _))))).1.2.1⟩) (fun hHeld => ?_)
          clear hK K
          try simp only [Act.put, List.getElem_toArray, List.getElem_cons_zero, List.getElem_cons_succ, List.setIfInBounds_toArray, List.set_cons_zero, List.set_cons_succ]
          refine wpAnyH_take (i := 13) (oi := _) (v := ?_) rfl (by kernel_rfl) (by kernel_rfl) (by kernel_rfl) (fun _ _ _ h => h) (Or.inl ⟨by rfl, ?_⟩) (by assumption) ?_
          rotate_left
          · intro w hSw
            (try dsimp only at hSw)
            go_simp
            try with_reducible rfl
          try simp only [Act.put, List.getElem_toArray, List.getElem_cons_zero, List.getElem_cons_succ, List.setIfInBounds_toArray, List.set_cons_zero, List.set_cons_succ]
          refine wpAnyH_ready (rs := [14]) (by kernel_rfl) (by simp) ?_
          refine AllReadyH.cons (o := _) rfl (fun K hK => ?_) AllReadyH.nil
          go_simp
          refine hK.out _ _ (show World.cell? _ _ = _ ∧ World.cell? _ _ = _ from ⟨(X4.below (belDr (belA1 (belA1 (belR _))))).1.1, (X4.below (belDr (belA1 (belA1 (belR _))))).1.2.1⟩) (fun hHeld => ?_)
          clear hK K
          try simp only [Act.put, List.getElem_toArray, List.getElem_cons_zero, List.getElem_cons_succ, List.setIfInBounds_toArray, List.set_cons_zero, List.set_cons_succ]
          refine wpAnyH_take (i := 15) (oi := _) (v := ?_) rfl (by kernel_rfl) (by kernel_rfl) (by kernel_rfl) (fun _ _ _ h => h) (Or.inl ⟨by rfl, ?_⟩) (by assumption) ?_
          rotate_left
          · intro w hSw
            (try dsimp only at hSw)
            go_simp
            try with_reducible rfl
          try simp only [Act.put, List.getElem_toArray, List.getElem_cons_zero, List.getElem_cons_succ, List.setIfInBounds_toArray, List.set_cons_zero, List.set_cons_succ]
          refine wpAnyH_ready (rs := [17]) (by kernel_rfl) (by simp) ?_
          refine AllReadyH.cons (o := _) rfl (fun K hK => ?_) AllReadyH.nil
          go_simp
          have HG : GB ((wc.alloc (.cells #[.int .i64 xl, .int .i64 (xd + (k6 : Int)), .int .i64 (c7 : Int)] 45)).alloc (.cells #[.int .i64 1, .int .i64 2, .int .i64 4] 3)).drew wc.heap.size xl (xd + (k6 : Int)) c7 := ((GB.new wc xl (xd + (k6 : Int)) c7 45).below (belA1 (belR _))).drew
          refine hK.out _ _ ⟨(X4.below (belDr (belA2 (belR _)))).1.1, (X4.below (belDr (belA2 (belR _)))).1.2.1⟩ (fun hHeld => ?_)
          clear hK K
          try simp only [Act.put, List.getElem_toArray, List.getElem_cons_zero, List.getElem_cons_succ, List.setIfInBounds_toArray, List.set_cons_zero, List.set_cons_succ]
          refine wpAnyH_done (by kernel_rfl) ?_ _
          go_wp2
          go_meet
          case rel => exact ⟨wc.heap.size, xd + (k6 : Int), c7, rfl, by have := HZ4.out; omega, (by simp <;> omega), HG, by omega, by omega, by omega, X4.below (belDr (belA2 (belR _))), R04.below (belDr (belA2 (belR _))), R14.below (belDr (belA2 (belR _))), belDr (belA2 B4)⟩
        · go_simp
          refine Calls.mono (within_ex (b.tdiv 3) 3 _ (by decide) (by decide) (HB.out _ (by decide))) ?_
          rintro e wa ⟨k7, rfl, hk7, rfl⟩
          have hk7' : (0 : Int) ≤ (k7 : Int) := by omega
          obtain ⟨c7, hc7, hc74, HC7⟩ := lit124 k7 hk7
          try go_simp
          refine hK.out _ _ (show World.cell? _ _ = _ ∧ World.cell? _ _ = _ from ⟨(X4.below (belDr (belA1 (belR _)))).1.1, (X4.below (belDr (belA1 (belR _)))).1.2.1⟩) (fun hHeld => ?_)
          clear hK K
          try simp only [Act.put, List.getElem_toArray, List.getElem_cons_zero, List.getElem_cons_succ, List.setIfInBounds_toArray, List.set_cons_zero, List.set_cons_succ]
          refine wpAnyH_ready (rs := [8]) (by kernel_rfl) (by simp) ?_
          refine AllReadyH.cons (o := _) rfl (fun K hK => ?_) AllReadyH.nil
          go_simp
          refine hK.out _ _ (show World.cell? _ _ = _ ∧ World.cell? _ _ = _ from ⟨(X4.below (belDr (belA1 (belA1 (belR _))))).1.1, (X4.below (belDr (belA1 (belA1 (belR _))))).1.2.1⟩) (fun hHeld => ?_)
          clear hK K
          try simp only [Act.put, List.getElem_toArray, List.getElem_cons_zero, List.getElem_cons_succ, List.setIfInBounds_toArray, List.set_cons_zero, List.set_cons_succ]
          refine wpAnyH_take (i := 13) (oi := _) (v := ?_) rfl (by kernel_rfl) (by kernel_rfl) (by kernel_rfl) (fun _ _ _ h => h) (Or.inl ⟨by rfl, ?_⟩) (by assumption) ?_
          rotate_left
          · intro w hSw
            (try dsimp only at hSw)
            go_simp
            try with_reducible rfl
          try simp only [Act.put, List.getElem_toArray, List.getElem_cons_zero, List.getElem_cons_succ, List.setIfInBounds_toArray, List.set_cons_zero, List.set_cons_succ]
          refine wpAnyH_ready (rs := [14]) (by kernel_rfl) (by simp) ?_
          refine AllReadyH.cons (o := _) rfl (fun K hK => ?_) AllReadyH.nil
          go_simp
          refine hK.out _ _ (show World.cell? _ _ = _ ∧ World.cell? _ _ = _ from ⟨(X4.below (belDr (belA1 (belA1 (belR _))))).1.1, (X4.below (belDr (belA1 (belA1 (belR _))))).1.2.1⟩) (fun hHeld => ?_)
          clear hK K
          try simp only [Act.put, List.getElem_toArray, List.getElem_cons_zero, List.getElem_cons_succ, List.setIfInBounds_toArray, List.set_cons_zero, List.set_cons_succ]
          refine wpAnyH_take (i := 15) (oi := _) (v := ?_) rfl (by kernel_rfl) (by kernel_rfl) (by kernel_rfl) (fun _ _ _ h => h) (Or.inl ⟨by rfl, ?_⟩) (by assumption) ?_
          rotate_left
          · intro w hSw
            (try dsimp only at hSw)
            go_simp
            try with_reducible rfl
          try simp only [Act.put, List.getElem_toArray, List.getElem_cons_zero, List.getElem_cons_succ, List.setIfInBounds_toArray, List.set_cons_zero, List.set_cons_succ]
          refine wpAnyH_ready (rs := [17]) (by kernel_rfl) (by simp) ?_
          refine AllReadyH.cons (o := _) rfl (fun K hK => ?_) AllReadyH.nil
          go_simp
          have HG : GB ((wc.alloc (.cells #[.int .i64 xl, .int .i64 (xd + (k6 : Int)), .int .i64 (c7 : Int)] 45)).alloc (.cells #[.int .i64 1, .int .i64 2, .int .i64 4] 3)).drew wc.heap.size xl (xd + (k6 : Int)) c7 := ((GB.new wc xl (xd + (k6 : Int)) c7 45).below (belA1 (belR _))).drew
          refine hK.out _ _ ⟨(X4.below (belDr (belA2 (belR _)))).1.1, (X4.below (belDr (belA2 (belR _)))).1.2.1⟩ (fun hHeld => ?_)
          clear hK K
          try simp only [Act.put, List.getElem_toArray, List.getElem_cons_zero, List.getElem_cons_succ, List.setIfInBounds_toArray, List.set_cons_zero, List.set_cons_succ]
          refine wpAnyH_done (by kernel_rfl) ?_ _
          go_wp2
          go_meet
          case rel => exact ⟨wc.heap.size, xd + (k6 : Int), c7, rfl, by have := HZ4.out; omega, (by simp <;> omega), HG, by omega, by omega, by omega, X4.below (belDr (belA2 (belR _))), R04.below (belDr (belA2 (belR _))), R14.below (belDr (belA2 (belR _))), belDr (belA2 B4)⟩
    · go_simp
      refine hK.out _ _ (show World.cell? _ _ = _ ∧ World.cell? _ _ = _ from ⟨(X4.below (belDr (belA1 (belR _)))).1.1, (X4.below (belDr (belA1 (belR _)))).1.2.1⟩) (fun hHeld => ?_)
      clear hK K
      try simp only [Act.put, List.getElem_toArray, List.getElem_cons_zero, List.getElem_cons_succ, List.setIfInBounds_toArray, List.set_cons_zero, List.set_cons_succ]
      refine wpAnyH_ready (rs := [6, 16]) (by kernel_rfl) (by simp) ?_
      refine AllReadyH.cons (o := _) rfl (fun K hK => ?_) (AllReadyH.cons (o := _) rfl (fun K hK => ?_) AllReadyH.nil)
      · go_simp
        refine Calls.mono (within_ex b 3 _ (by decide) (by decide) Hb.out) ?_
        rintro e wa ⟨k6, rfl, hk6, rfl⟩
        have kw : IntKind.i64.wrap (xd + (k6 : Int)) = xd + (k6 : Int) := by rw [IntKind.wrap_i64]; omega
        try go_simp
        refine hK.out _ _ (show World.cell? _ _ = _ ∧ World.cell? _ _ = _ from ⟨(X4.below (belDr (belA1 (belR _)))).1.1, (X4.below (belDr (belA1 (belR _)))).1.2.1⟩) (fun hHeld => ?_)
        clear hK K
        try simp only [Act.put, List.getElem_toArray, List.getElem_cons_zero, List.getElem_cons_succ, List.setIfInBounds_toArray, List.set_cons_zero, List.set_cons_succ]
        refine wpAnyH_take (i := 7) (oi := _) (v := ?_) rfl (by kernel_rfl) (by kernel_rfl) (by kernel_rfl) (fun _ _ _ h => h) (Or.inl ⟨by rfl, ?_⟩) (by assumption) ?_
        rotate_left
        · intro w hSw
          (try dsimp only at hSw)
          go_simp
          try with_reducible rfl
        try simp only [Act.put, List.getElem_toArray, List.getElem_cons_zero, List.getElem_cons_succ, List.setIfInBounds_toArray, List.set_cons_zero, List.set_cons_succ]
        refine wpAnyH_ready (rs := [12, 16]) (by kernel_rfl) (by simp) ?_
        refine AllReadyH.cons (o := _) rfl (fun K hK => ?_) (AllReadyH.cons (o := _) rfl (fun K hK => ?_) AllReadyH.nil)
        · go_simp
          refine Calls.mono (within_ex (b.tdiv 3) 3 _ (by decide) (by decide) (HB.out _ (by decide))) ?_
          rintro e wa ⟨k7, rfl, hk7, rfl⟩
          have hk7' : (0 : Int) ≤ (k7 : Int) := by omega
          obtain ⟨c7, hc7, hc74, HC7⟩ := lit124 k7 hk7
          try go_simp
          refine hK.out _ _ (show World.cell? _ _ = _ ∧ World.cell? _ _ = _ from ⟨(X4.below (belDr (belA1 (belR _)))).1.1, (X4.below (belDr (belA1 (belR _)))).1.2.1⟩) (fun hHeld => ?_)
          clear hK K
          try simp only [Act.put, List.getElem_toArray, List.getElem_cons_zero, List.getElem_cons_succ, List.setIfInBounds_toArray, List.set_cons_zero, List.set_cons_succ]
          refine wpAnyH_take (i := 13) (oi := _) (v := ?_) rfl (by kernel_rfl) (by kernel_rfl) (by kernel_rfl) (fun _ _ _ h => h) (Or.inl ⟨by rfl, ?_⟩) (by assumption) ?_
          rotate_left
          · intro w hSw
            (try dsimp only at hSw)
            go_simp
            try with_reducible rfl
          try simp only [Act.put, List.getElem_toArray, List.getElem_cons_zero, List.getElem_cons_succ, List.setIfInBounds_toArray, List.set_cons_zero, List.set_cons_succ]
          refine wpAnyH_ready (rs := [14, 16]) (by kernel_rfl) (by simp) ?_
          refine AllReadyH.cons (o := _) rfl (fun K hK => ?_) (AllReadyH.cons (o := _) rfl (fun K hK => ?_) AllReadyH.nil)
          · go_simp
            refine hK.out _ _ (show World.cell? _ _ = _ ∧ World.cell? _ _ = _ from ⟨(X4.below (belDr (belA1 (belR _)))).1.1, (X4.below (belDr (belA1 (belR _)))).1.2.1⟩) (fun hHeld => ?_)
            clear hK K
            try simp only [Act.put, List.getElem_toArray, List.getElem_cons_zero, List.getElem_cons_succ, List.setIfInBounds_toArray, List.set_cons_zero, List.set_cons_succ]
            refine wpAnyH_take (i := 15) (oi := _) (v := ?_) rfl (by kernel_rfl) (by kernel_rfl) (by kernel_rfl) (fun _ _ _ h => h) (Or.inl ⟨by rfl, ?_⟩) (by assumption) ?_
            rotate_left
            · intro w hSw
              (try dsimp only at hSw)
              go_simp
              try with_reducible rfl
            try simp only [Act.put, List.getElem_toArray, List.getElem_cons_zero, List.getElem_cons_succ, List.setIfInBounds_toArray, List.set_cons_zero, List.set_cons_succ]
            refine wpAnyH_ready (rs := [16]) (by kernel_rfl) (by simp) ?_
            refine AllReadyH.cons (o := _) rfl (fun K hK => ?_) AllReadyH.nil
            go_simp
            refine hK.out _ _ (show World.cell? _ _ = _ ∧ World.cell? _ _ = _ from ⟨(X4.below (belDr (belA1 (belA1 (belR _))))).1.1, (X4.below (belDr (belA1 (belA1 (belR _))))).1.2.1⟩) (fun hHeld => ?_)
            clear hK K
            try simp only [Act.put, List.getElem_toArray, List.getElem_cons_zero, List.getElem_cons_succ, List.setIfInBounds_toArray, List.set_cons_zero, List.set_cons_succ]
            refine wpAnyH_ready (rs := [17]) (by kernel_rfl) (by simp) ?_
            refine AllReadyH.cons (o := _) rfl (fun K hK => ?_) AllReadyH.nil
            go_simp
            have HG : GB ((wc.alloc (.cells #[.int .i64 1, .int .i64 2, .int .i64 4] 3)).alloc (.cells #[.int .i64 xl, .int .i64 (xd + (k6 : Int)), .int .i64 (c7 : Int)] 45)).drew (wc.heap.size + 1) xl (xd + (k6 : Int)) c7 := (by have := GB.new (wc.alloc (.cells #[.int .i64 1, .int .i64 2, .int .i64 4] 3)) xl (xd + (k6 : Int)) c7 45; simp only [World.size_alloc] at this; exact this.drew)
            refine hK.out _ _ ⟨(X4.below (belDr (belA2 (belR _)))).1.1, (X4.below (belDr (belA2 (belR _)))).1.2.1⟩ (fun hHeld => ?_)
            clear hK K
            try simp only [Act.put, List.getElem_toArray, List.getElem_cons_zero, List.getElem_cons_succ, List.setIfInBounds_toArray, List.set_cons_zero, List.set_cons_succ]
            refine wpAnyH_done (by kernel_rfl) ?_ _
            go_wp2
            go_meet
            case rel => exact ⟨wc.heap.size + 1, xd + (k6 : Int), c7, rfl, by have := HZ4.out; omega, (by simp <;> omega), HG, by omega, by omega, by omega, X4.below (belDr (belA2 (belR _))), R04.below (belDr (belA2 (belR _))), R14.below (belDr (belA2 (belR _))), belDr (belA2 B4)⟩
          · go_simp
            refine hK.out _ _ (show World.cell? _ _ = _ ∧ World.cell? _ _ = _ from ⟨(X4.below (belDr (belA1 (belA1 (belR _))))).1.1, (X4.below (belDr (belA1 (belA1 (belR _))))).1.2.1⟩) (fun hHeld => ?_)
            clear hK K
            try simp only [Act.put, List.getElem_toArray, List.getElem_cons_zero, List.getElem_cons_succ, List.setIfInBounds_toArray, List.set_cons_zero, List.set_cons_succ]
            refine wpAnyH_ready (rs := [14]) (by kernel_rfl) (by simp) ?_
            refine AllReadyH.cons (o := _) rfl (fun K hK => ?_) AllReadyH.nil
            go_simp
            refine hK.out _ _ (show World.cell? _ _ = _ ∧ World.cell? _ _ = _ from ⟨(X4.below (belDr (belA1 (belA1 (belR _))))).1.1, (X4.below (belDr (belA1 (belA1 (belR _))))).1.2.1⟩) (fun hHeld => ?_)
            clear hK K
            try simp only [Act.put, List.getElem_toArray, List.getElem_cons_zero, List.getElem_cons_succ, List.setIfInBounds_toArray, List.set_cons_zero, List.set_cons_succ]
            refine wpAnyH_take (i := 15) (oi := _) (v := ?_) rfl (by kernel_rfl) (by kernel_rfl) (by kernel_rfl) (fun _ _ _ h => h) (Or.inl ⟨by rfl, ?_⟩) (by assumption) ?_
            rotate_left
            · intro w hSw
              (try dsimp only at hSw)
              go_simp
              try with_reducible rfl
            try simp only [Act.put, List.getElem_toArray, List.getElem_cons_zero, List.getElem_cons_succ, List.setIfInBounds_toArray, List.set_cons_zero, List.set_cons_succ]
            refine wpAnyH_ready (rs := [17]) (by kernel_rfl) (by simp) ?_
            refine AllReadyH.cons (o := _) rfl (fun K hK => ?_) AllReadyH.nil
            go_simp
            have HG : GB ((wc.alloc (.cells #[.int .i64 1, .int .i64 2, .int .i64 4] 3)).alloc (.cells #[.int .i64 xl, .int .i64 (xd + (k6 : Int)), .int .i64 (c7 : Int)] 45)).drew (wc.heap.size + 1) xl (xd + (k6 : Int)) c7 := (by have := GB.new (wc.alloc (.cells #[.int .i64 1, .int .i64 2, .int .i64 4] 3)) xl (xd + (k6 : Int)) c7 45; simp only [World.size_alloc] at this; exact this.drew)
            refine hK.out _ _ ⟨(X4.below (belDr (belA2 (belR _)))).1.1, (X4.below (belDr (belA2 (belR _)))).1.2.1⟩ (fun hHeld => ?_)
            clear hK K
            try simp only [Act.put, List.getElem_toArray, List.getElem_cons_zero, List.getElem_cons_succ, List.setIfInBounds_toArray, List.set_cons_zero, List.set_cons_succ]
            refine wpAnyH_done (by kernel_rfl) ?_ _
            go_wp2
            go_meet
            case rel => exact ⟨wc.heap.size + 1, xd + (k6 : Int), c7, rfl, by have := HZ4.out; omega, (by simp <;> omega), HG, by omega, by omega, by omega, X4.below (belDr (belA2 (belR _))), R04.below (belDr (belA2 (belR _))), R14.below (belDr (belA2 (belR _))), belDr (belA2 B4)⟩
        · go_simp
          refine hK.out _ _ (show World.cell? _ _ = _ ∧ World.cell? _ _ = _ from ⟨(X4.below (belDr (belA1 (belA1 (belR _))))).1.1, (X4.below (belDr (belA1 (belA1 (belR _))))).1.2.1⟩) (fun hHeld => ?_)
          clear hK K
          try simp only [Act.put, List.getElem_toArray, List.getElem_cons_zero, List.getElem_cons_succ, List.setIfInBounds_toArray, List.set_cons_zero, List.set_cons_succ]
          refine wpAnyH_ready (rs := [12]) (by kernel_rfl) (by simp) ?_
          refine AllReadyH.cons (o := _) rfl (fun K hK => ?_) AllReadyH.nil
          go_simp
          refine Calls.mono (within_ex (b.tdiv 3) 3 _ (by decide) (by decide) (HB.out _ (by decide))) ?_
          rintro e wa ⟨k7, rfl, hk7, rfl⟩
          have hk7' : (0 : Int) ≤ (k7 : Int) := by omega
          obtain ⟨c7, hc7, hc74, HC7⟩ := lit124 k7 hk7
          try go_simp
          refine hK.out _ _ (show World.cell? _ _ = _ ∧ World.cell? _ _ = _ from ⟨(X4.below (belDr (belA1 (belA1 (belR _))))).1.1, (X4.below (belDr (belA1 (belA1 (belR _))))).1.2.1⟩) (fun hHeld => ?_)
          clear hK K
          try simp only [Act.put, List.getElem_toArray, List.getElem_cons_zero, List.getElem_cons_succ, List.setIfInBounds_toArray, List.set_cons_zero, List.set_cons_succ]
          refine wpAnyH_take (i := 13) (oi := _) (v := ?_) rfl (by kernel_rfl) (by kernel_rfl) (by kernel_rfl) (fun _ _ _ h => h) (Or.inl ⟨by rfl, ?_⟩) (by assumption) ?_
          rotate_left
          · intro w hSw
            (try dsimp only at hSw)
            go_simp
            try with_reducible rfl
          try simp only [Act.put, List.getElem_toArray, List.getElem_cons_zero, List.getElem_cons_succ, List.setIfInBounds_toArray, List.set_cons_zero, List.set_cons_succ]
          refine wpAnyH_ready (rs := [14]) (by kernel_rfl) (by simp) ?_
          refine AllReadyH.cons (o := _) rfl (fun K hK => ?_) AllReadyH.nil
          go_simp
          refine hK.out _ _ (show World.cell? _ _ = _ ∧ World.cell? _ _ = _ from ⟨(X4.below (belDr (belA1 (belA1 (belR _))))).1.1, (X4.below (belDr (belA1 (belA1 (belR _))))).1.2.1⟩) (fun hHeld => ?_)
          clear hK K
          try simp only [Act.put, List.getElem_toArray, List.getElem_cons_zero, List.getElem_cons_succ, List.setIfInBounds_toArray, List.set_cons_zero, List.set_cons_succ]
          refine wpAnyH_take (i := 15) (oi := _) (v := ?_) rfl (by kernel_rfl) (by kernel_rfl) (by kernel_rfl) (fun _ _ _ h => h) (Or.inl ⟨by rfl, ?_⟩) (by assumption) ?_
          rotate_left
          · intro w hSw
            (try dsimp only at hSw)
            go_simp
            try with_reducible rfl
          try simp only [Act.put, List.getElem_toArray, List.getElem_cons_zero, List.getElem_cons_succ, List.setIfInBounds_toArray, List.set_cons_zero, List.set_cons_succ]
          refine wpAnyH_ready (rs := [17]) (by kernel_rfl) (by simp) ?_
          refine AllReadyH.cons (o := _) rfl (fun K hK => ?_) AllReadyH.nil
          go_simp
          have HG : GB ((wc.alloc (.cells #[.int .i64 1, .int .i64 2, .int .i64 4] 3)).alloc (.cells #[.int .i64 xl, .int .i64 (xd + (k6 : Int)), .int .i64 (c7 : Int)] 45)).drew (wc.heap.size + 1) xl (xd + (k6 : Int)) c7 := (by have := GB.new (wc.alloc (.cells #[.int .i64 1, .int .i64 2, .int .i64 4] 3)) xl (xd + (k6 : Int)) c7 45; simp only [World.size_alloc] at this; exact this.drew)
          refine hK.out _ _ ⟨(X4.below (belDr (belA2 (belR _)))).1.1, (X4.below (belDr (belA2 (belR _)))).1.2.1⟩ (fun hHeld => ?_)
          clear hK K
          try simp only [Act.put, List.getElem_toArray, List.getElem_cons_zero, List.getElem_cons_succ, List.setIfInBounds_toArray, List.set_cons_zero, List.set_cons_succ]
          refine wpAnyH_done (by kernel_rfl) ?_ _
          go_wp2
          go_meet
          case rel => exact ⟨wc.heap.size + 1, xd + (k6 : Int), c7, rfl, by have := HZ4.out; omega, (by simp <;> omega), HG, by omega, by omega, by omega, X4.below (belDr (belA2 (belR _))), R04.below (belDr (belA2 (belR _))), R14.below (belDr (belA2 (belR _))), belDr (belA2 B4)⟩
      · go_simp
        refine hK.out _ _ (show World.cell? _ _ = _ ∧ World.cell? _ _ = _ from ⟨(X4.below (belDr (belA1 (belA1 (belR _))))).1.1, (X4.below (belDr (belA1 (belA1 (belR _))))).1.2.1⟩) (fun hHeld => ?_)
        clear hK K
        try simp only [Act.put, List.getElem_toArray, List.getElem_cons_zero, List.getElem_cons_succ, List.setIfInBounds_toArray, List.set_cons_zero, List.set_cons_succ]
        refine wpAnyH_ready (rs := [6]) (by kernel_rfl) (by simp) ?_
        refine AllReadyH.cons (o := _) rfl (fun K hK => ?_) AllReadyH.nil
        go_simp
        refine Calls.mono (within_ex b 3 _ (by decide) (by decide) Hb.out) ?_
        rintro e wa ⟨k6, rfl, hk6, rfl⟩
        have kw : IntKind.i64.wrap (xd + (k6 : Int)) = xd + (k6 : Int) := by rw [IntKind.wrap_i64]; omega
        try go_simp
        refine hK.out _ _ (show World.cell? _ _ = _ ∧ World.cell? _ _ = _ from ⟨(X4.below (belDr (belA1 (belA1 (belR _))))).1.1, (X4.below (belDr (belA1 (belA1 (belR _))))).1.2.1⟩) (fun hHeld => ?_)
        clear hK K
        try simp only [Act.put, List.getElem_toArray, List.getElem_cons_zero, List.getElem_cons_succ, List.setIfInBounds_toArray, List.set_cons_zero, List.set_cons_succ]
        refine wpAnyH_take (i := 7) (oi := _) (v := ?_) rfl (by kernel_rfl) (by kernel_rfl) (by kernel_rfl) (fun _ _ _ h => h) (Or.inl ⟨by rfl, ?_⟩) (by assumption) ?_
        rotate_left
        · intro w hSw
          (try dsimp only at hSw)
          go_simp
          try with_reducible rfl
        try simp only [Act.put, List.getElem_toArray, List.getElem_cons_zero, List.getElem_cons_succ, List.setIfInBounds_toArray, List.set_cons_zero, List.set_cons_succ]
        refine wpAnyH_ready (rs := [12]) (by kernel_rfl) (by simp) ?_
        refine AllReadyH.cons (o := _) rfl (fun K hK => ?_) AllReadyH.nil
        go_simp
        refine Calls.mono (within_ex (b.tdiv 3) 3 _ (by decide) (by decide) (HB.out _ (by decide))) ?_
        rintro e wa ⟨k7, rfl, hk7, rfl⟩
        have hk7' : (0 : Int) ≤ (k7 : Int) := by omega
        obtain ⟨c7, hc7, hc74, HC7⟩ := lit124 k7 hk7
        try go_simp
        refine hK.out _ _ (show World.cell? _ _ = _ ∧ World.cell? _ _ = _ from ⟨(X4.below (belDr (belA1 (belA1 (belR _))))).1.1, (X4.below (belDr (belA1 (belA1 (belR _))))).1.2.1⟩) (fun hHeld => ?_)
        clear hK K
        try simp only [Act.put, List.getElem_toArray, List.getElem_cons_zero, List.getElem_cons_succ, List.setIfInBounds_toArray, List.set_cons_zero, List.set_cons_succ]
        refine wpAnyH_take (i := 13) (oi := _) (v := ?_) rfl (by kernel_rfl) (by kernel_rfl) (by kernel_rfl) (fun _ _ _ h => h) (Or.inl ⟨by rfl, ?_⟩) (by assumption) ?_
        rotate_left
        · intro w hSw
          (try dsimp only at hSw)
          go_simp
          try with_reducible rfl
        try simp only [Act.put, List.getElem_toArray, List.getElem_cons_zero, List.getElem_cons_succ, List.setIfInBounds_toArray, List.set_cons_zero, List.set_cons_succ]
        refine wpAnyH_ready (rs := [14]) (by kernel_rfl) (by simp) ?_
        refine AllReadyH.cons (o := _) rfl (fun K hK => ?_) AllReadyH.nil
        go_simp
        refine hK.out _ _ (show World.cell? _ _ = _ ∧ World.cell? _ _ = _ from ⟨(X4.below (belDr (belA1 (belA1 (belR _))))).1.1, (X4.below (belDr (belA1 (belA1 (belR _))))).1.2.1⟩) (fun hHeld => ?_)
        clear hK K
        try simp only [Act.put, List.getElem_toArray, List.getElem_cons_zero, List.getElem_cons_succ, List.setIfInBounds_toArray, List.set_cons_zero, List.set_cons_succ]
        refine wpAnyH_take (i := 15) (oi := _) (v := ?_) rfl (by kernel_rfl) (by kernel_rfl) (by kernel_rfl) (fun _ _ _ h => h) (Or.inl ⟨by rfl, ?_⟩) (by assumption) ?_
        rotate_left
        · intro w hSw
          (try dsimp only at hSw)
          go_simp
          try with_reducible rfl
        try simp only [Act.put, List.getElem_toArray, List.getElem_cons_zero, List.getElem_cons_succ, List.setIfInBounds_toArray, List.set_cons_zero, List.set_cons_succ]
        refine wpAnyH_ready (rs := [17]) (by kernel_rfl) (by simp) ?_
        refine AllReadyH.cons (o := _) rfl (fun K hK => ?_) AllReadyH.nil
        go_simp
        have HG : GB ((wc.alloc (.cells #[.int .i64 1, .int .i64 2, .int .i64 4] 3)).alloc (.cells #[.int .i64 xl, .int .i64 (xd + (k6 : Int)), .int .i64 (c7 : Int)] 45)).drew (wc.heap.size + 1) xl (xd + (k6 : Int)) c7 := (by have := GB.new (wc.alloc (.cells #[.int .i64 1, .int .i64 2, .int .i64 4] 3)) xl (xd + (k6 : Int)) c7 45; simp only [World.size_alloc] at this; exact this.drew)
        refine hK.out _ _ ⟨(X4.below (belDr (belA2 (belR _)))).1.1, (X4.below (belDr (belA2 (belR _)))).1.2.1⟩ (fun hHeld => ?_)
        clear hK K
        try simp only [Act.put, List.getElem_toArray, List.getElem_cons_zero, List.getElem_cons_succ, List.setIfInBounds_toArray, List.set_cons_zero, List.set_cons_succ]
        refine wpAnyH_done (by kernel_rfl) ?_ _
        go_wp2
        go_meet
        case rel => exact ⟨wc.heap.size + 1, xd + (k6 : Int), c7, rfl, by have := HZ4.out; omega, (by simp <;> omega), HG, by omega, by omega, by omega, X4.below (belDr (belA2 (belR _))), R04.below (belDr (belA2 (belR _))), R14.below (belDr (belA2 (belR _))), belDr (belA2 B4)⟩
    · go_simp
      refine hK.out _ _ (show World.cell? _ _ = _ ∧ World.cell? _ _ = _ from ⟨(X4.below (belDr (belA1 (belR _)))).1.1, (X4.below (belDr (belA1 (belR _)))).1.2.1⟩) (fun hHeld => ?_)
      clear hK K
      try simp only [Act.put, List.getElem_toArray, List.getElem_cons_zero, List.getElem_cons_succ, List.setIfInBounds_toArray, List.set_cons_zero, List.set_cons_succ]
      refine wpAnyH_ready (rs := [6, 8]) (by kernel_rfl) (by simp) ?_
      refine AllReadyH.cons (o := _) rfl (fun K hK => ?_) (AllReadyH.cons (o := _) rfl (fun K hK => ?_) AllReadyH.nil)
      · go_simp
        refine Calls.mono (within_ex b 3 _ (by decide) (by decide) Hb.out) ?_
        rintro e wa ⟨k6, rfl, hk6, rfl⟩
        have kw : IntKind.i64.wrap (xd + (k6 : Int)) = xd + (k6 : Int) := by rw [IntKind.wrap_i64]; omega
        try go_simp
        refine hK.out _ _ (show World.cell? _ _ = _ ∧ World.cell? _ _ = _ from ⟨(X4.below (belDr (belA1 (belR _)))).1.1, (X4.below (belDr (belA1 (belR _)))).1.2.1⟩) (fun hHeld => ?_)
        clear hK K
        try simp only [Act.put, List.getElem_toArray, List.getElem_cons_zero, List.getElem_cons_succ, List.setIfInBounds_toArray, List.set_cons_zero, List.set_cons_succ]
        refine wpAnyH_take (i := 7) (oi := _) (v := ?_) rfl (by kernel_rfl) (by kernel_rfl) (by kernel_rfl) (fun _ _ _ h => h) (Or.inl ⟨by rfl, ?_⟩) (by assumption) ?_
        rotate_left
        · intro w hSw
          (try dsimp only at hSw)
          go_simp
          try with_reducible rfl
        try simp only [Act.put, List.getElem_toArray, List.getElem_cons_zero, List.getElem_cons_succ, List.setIfInBounds_toArray, List.set_cons_zero, List.set_cons_succ]
        refine wpAnyH_ready (rs := [8, 12]) (by kernel_rfl) (by simp) ?_
        refine AllReadyH.cons (o := _) rfl (fun K hK => ?_) (AllReadyH.cons (o := _) rfl (fun K hK => ?_) AllReadyH.nil)
        · go_simp
          refine hK.out _ _ (show World.cell? _ _ = _ ∧ World.cell? _ _ = _ from ⟨(X4.below (belDr (belA1 (belA1 (belR _))))).1.1, (X4.below (belDr (belA1 (belA1 (belR _))))).1.2.1⟩) (fun hHeld => ?_)
          clear hK K
          try simp only [Act.put, List.getElem_toArray, List.getElem_cons_zero, List.getElem_cons_succ, List.setIfInBounds_toArray, List.set_cons_zero, List.set_cons_succ]
          refine wpAnyH_ready (rs := [12]) (by kernel_rfl) (by simp) ?_
          refine AllReadyH.cons (o := _) rfl (fun K hK => ?_) AllReadyH.nil
          go_simp
          refine Calls.mono (within_ex (b.tdiv 3) 3 _ (by decide) (by decide) (HB.out _ (by decide))) ?_
          rintro e wa ⟨k7, rfl, hk7, rfl⟩
          have hk7' : (0 : Int) ≤ (k7 : Int) := by omega
          obtain ⟨c7, hc7, hc74, HC7⟩ := lit124 k7 hk7
          try go_simp
          refine hK.out _ _ (show World.cell? _ _ = _ ∧ World.cell? _ _ = _ from ⟨(X4.below (belDr (belA1 (belA1 (belR _))))).1.1, (X4.below (belDr (belA1 (belA1 (belR _))))).1.2.1⟩) (fun hHeld => ?_)
          clear hK K
          try simp only [Act.put, List.getElem_toArray, List.getElem_cons_zero, List.getElem_cons_succ, List.setIfInBounds_toArray, List.set_cons_zero, List.set_cons_succ]
          refine wpAnyH_take (i := 13) (oi := _) (v := ?_) rfl (by kernel_rfl) (by kernel_rfl) (by kernel_rfl) (fun _ _ _ h => h) (Or.inl ⟨by rfl, ?_⟩) (by assumption) ?_
          rotate_left
          · intro w hSw
            (try dsimp only at hSw)
            go_simp
            try with_reducible rfl
          try simp only [Act.put, List.getElem_toArray, List.getElem_cons_zero, List.getElem_cons_succ, List.setIfInBounds_toArray, List.set_cons_zero, List.set_cons_succ]
          refine wpAnyH_ready (rs := [14]) (by kernel_rfl) (by simp) ?_
          refine AllReadyH.cons (o := _) rfl (fun K hK => ?_) AllReadyH.nil
          go_simp
          refine hK.out _ _ (show World.cell? _ _ = _ ∧ World.cell? _ _ = _ from ⟨(X4.below (belDr (belA1 (belA1 (belR _))))).1.1, (X4.below (belDr (belA1 (belA1 (belR _))))).1.2.1⟩) (fun hHeld => ?_)
          clear hK K
          try simp only [Act.put, List.getElem_toArray, List.getElem_cons_zero, List.getElem_cons_succ, List.setIfInBounds_toArray, List.set_cons_zero, List.set_cons_succ]
          refine wpAnyH_take (i := 15) (oi := _) (v := ?_) rfl (by kernel_rfl) (by kernel_rfl) (by kernel_rfl) (fun _ _ _ h => h) (Or.inl ⟨by rfl, ?_⟩) (by assumption) ?_
          rotate_left
          · intro w hSw
            (try dsimp only at hSw)
            go_simp
            try with_reducible rfl
          try simp only [Act.put, List.getElem_toArray, List.getElem_cons_zero, List.getElem_cons_succ, List.setIfInBounds_toArray, List.set_cons_zero, List.set_cons_succ]
          refine wpAnyH_ready (rs := [17]) (by kernel_rfl) (by simp) ?_
          refine AllReadyH.cons (o := _) rfl (fun K hK => ?_) AllReadyH.nil
          go_simp
          have HG : GB ((wc.alloc (.cells #[.int .i64 xl, .int .i64 (xd + (k6 : Int)), .int .i64 (c7 : Int)] 45)).alloc (.cells #[.int .i64 1, .int .i64 2, .int .i64 4] 3)).drew wc.heap.size xl (xd + (k6 : Int)) c7 := ((GB.new wc xl (xd + (k6 : Int)) c7 45).below (belA1 (belR _))).drew
          refine hK.out _ _ ⟨(X4.below (belDr (belA2 (belR _)))).1.1, (X4.below (belDr (belA2 (belR _)))).1.2.1⟩ (fun hHeld => ?_)
          clear hK K
          try simp only [Act.put, List.getElem_toArray, List.getElem_cons_zero, List.getElem_cons_succ, List.setIfInBounds_toArray, List.set_cons_zero, List.set_cons_succ]
          refine wpAnyH_done (by kernel_rfl) ?_ _
          go_wp2
          go_meet
          case rel => exact ⟨wc.heap.size, xd + (k6 : Int), c7, rfl, by have := HZ4.out; omega, (by simp <;> omega), HG, by omega, by omega, by omega, X4.below (belDr (belA2 (belR _))), R04.below (belDr (belA2 (belR _))), R14.below (belDr (belA2 (belR _))), belDr (belA2 B4)⟩
        · go_simp
          refine Calls.mono (within_ex (b.tdiv 3) 3 _ (by decide) (by decide) (HB.out _ (by decide))) ?_
          rintro e wa ⟨k7, rfl, hk7, rfl⟩
          have hk7' : (0 : Int) ≤ (k7 : Int) := by omega
          obtain ⟨c7, hc7, hc74, HC7⟩ := lit124 k7 hk7
          try go_simp
          refine hK.out _ _ (show World.cell? _ _ = _ ∧ World.cell? _ _ = _ from ⟨(X4.below (belDr (belA1 (belR _)))).1.1, (X4.below (belDr (belA1 (belR _)))).1.2.1⟩) (fun hHeld => ?_)
          clear hK K
          try simp only [Act.put, List.getElem_toArray, List.getElem_cons_zero, List.getElem_cons_succ, List.setIfInBounds_toArray, List.set_cons_zero, List.set_cons_succ]
          refine wpAnyH_ready (rs := [8]) (by kernel_rfl) (by simp) ?_
          refine AllReadyH.cons (o := _) rfl (fun K hK => ?_) AllReadyH.nil
          go_simp
          refine hK.out _ _ (show World.cell? _ _ = _ ∧ World.cell? _ _ = _ from ⟨(X4.below (belDr (belA1 (belA1 (belR _))))).1.1, (X4.below (belDr (belA1 (belA1 (belR _))))).1.2.1⟩) (fun hHeld => ?_)
          clear hK K
          try simp only [Act.put, List.getElem_toArray, List.getElem_cons_zero, List.getElem_cons_succ, List.setIfInBounds_toArray, List.set_cons_zero, List.set_cons_succ]
          refine wpAnyH_take (i := 13) (oi := _) (v := ?_) rfl (by kernel_rfl) (by kernel_rfl) (by kernel_rfl) (fun _ _ _ h => h) (Or.inl ⟨by rfl, ?_⟩) (by assumption) ?_
          rotate_left
          · intro w hSw
            (try dsimp only at hSw)
            go_simp
            try with_reducible rfl
          try simp only [Act.put, List.getElem_toArray, List.getElem_cons_zero, List.getElem_cons_succ, List.setIfInBounds_toArray, List.set_cons_zero, List.set_cons_succ]
          refine wpAnyH_ready (rs := [14]) (by kernel_rfl) (by simp) ?_
          refine AllReadyH.cons (o := _) rfl (fun K hK => ?_) AllReadyH.nil
          go_simp
          refine hK.out _ _ (show World.cell? _ _ = _ ∧ World.cell? _ _ = _ from ⟨(X4.below (belDr (belA1 (belA1 (belR _))))).1.1, (X4.below (belDr (belA1 (belA1 (belR _))))).1.2.1⟩) (fun hHeld => ?_)
          clear hK K
          try simp only [Act.put, List.getElem_toArray, List.getElem_cons_zero, List.getElem_cons_succ, List.setIfInBounds_toArray, List.set_cons_zero, List.set_cons_succ]
          refine wpAnyH_take (i := 15) (oi := _) (v := ?_) rfl (by kernel_rfl) (by kernel_rfl) (by kernel_rfl) (fun _ _ _ h => h) (Or.inl ⟨by rfl, ?_⟩) (by assumption) ?_
          rotate_left
          · intro w hSw
            (try dsimp only at hSw)
            go_simp
            try with_reducible rfl
          try simp only [Act.put, List.getElem_toArray, List.getElem_cons_zero, List.getElem_cons_succ, List.setIfInBounds_toArray, List.set_cons_zero, List.set_cons_succ]
          refine wpAnyH_ready (rs := [17]) (by kernel_rfl) (by simp) ?_
          refine AllReadyH.cons (o := _) rfl (fun K hK => ?_) AllReadyH.nil
          go_simp
          have HG : GB ((wc.alloc (.cells #[.int .i64 xl, .int .i64 (xd + (k6 : Int)), .int .i64 (c7 : Int)] 45)).alloc (.cells #[.int .i64 1, .int .i64 2, .int .i64 4] 3)).drew wc.heap.size xl (xd + (k6 : Int)) c7 := ((GB.new wc xl (xd + (k6 : Int)) c7 45).below (belA1 (belR _))).drew
          refine hK.out _ _ ⟨(X4.below (belDr (belA2 (belR _)))).1.1, (X4.below (belDr (belA2 (belR _)))).1.2.1⟩ (fun hHeld => ?_)
          clear hK K
          try simp only [Act.put, List.getElem_toArray, List.getElem_cons_zero, List.getElem_cons_succ, List.setIfInBounds_toArray, List.set_cons_zero, List.set_cons_succ]
          refine wpAnyH_done (by kernel_rfl) ?_ _
          go_wp2
          go_meet
          case rel => exact ⟨wc.heap.size, xd + (k6 : Int), c7, rfl, by have := HZ4.out; omega, (by simp <;> omega), HG, by omega, by omega, by omega, X4.below (belDr (belA2 (belR _))), R04.below (belDr (belA2 (belR _))), R14.below (belDr (belA2 (belR _))), belDr (belA2 B4)⟩
      · go_simp
        refine hK.out _ _ (show World.cell? _ _ = _ ∧ World.cell? _ _ = _ from ⟨(X4.below (belDr (belA1 (belA1 (belR _))))).1.1, (X4.below (belDr (belA1 (belA1 (belR _))))).1.2.1⟩) (fun hHeld => ?_)
        clear hK K
        try simp only [Act.put, List.getElem_toArray, List.getElem_cons_zero, List.getElem_cons_succ, List.setIfInBounds_toArray, List.set_cons_zero, List.set_cons_succ]
        refine wpAnyH_ready (rs := [6]) (by kernel_rfl) (by simp) ?_
        refine AllReadyH.cons (o := _) rfl (fun K hK => ?_) AllReadyH.nil
        go_simp
        refine Calls.mono (within_ex b 3 _ (by decide) (by decide) Hb.out) ?_
        rintro e wa ⟨k6, rfl, hk6, rfl⟩
        have kw : IntKind.i64.wrap (xd + (k6 : Int)) = xd + (k6 : Int) := by rw [IntKind.wrap_i64]; omega
        try go_simp
        refine hK.out _ _ (show World.cell? _ _ = _ ∧ World.cell? _ _ = _ from ⟨(X4.below (belDr (belA1 (belA1 (belR _))))).1.1, (X4.below (belDr (belA1 (belA1 (belR _))))).1.2.1⟩) (fun hHeld => ?_)
        clear hK K
        try simp only [Act.put, List.getElem_toArray, List.getElem_cons_zero, List.getElem_cons_succ, List.setIfInBounds_toArray, List.set_cons_zero, List.set_cons_succ]
        refine wpAnyH_take (i := 7) (oi := _) (v := ?_) rfl (by kernel_rfl) (by kernel_rfl) (by kernel_rfl) (fun _ _ _ h => h) (Or.inl ⟨by rfl, ?_⟩) (by assumption) ?_
        rotate_left
        · intro w hSw
          (try dsimp only at hSw)
          go_simp
          try with_reducible rfl
        try simp only [Act.put, List.getElem_toArray, List.getElem_cons_zero, List.getElem_cons_succ, List.setIfInBounds_toArray, List.set_cons_zero, List.set_cons_succ]
        refine wpAnyH_ready (rs := [12]) (by kernel_rfl) (by simp) ?_
        refine AllReadyH.cons (o := _) rfl (fun K hK => ?_) AllReadyH.nil
        go_simp
        refine Calls.mono (within_ex (b.tdiv 3) 3 _ (by decide) (by decide) (HB.out _ (by decide))) ?_
        rintro e wa ⟨k7, rfl, hk7, rfl⟩
        have hk7' : (0 : Int) ≤ (k7 : Int) := by omega
        obtain ⟨c7, hc7, hc74, HC7⟩ := lit124 k7 hk7
        try go_simp
        refine hK.out _ _ (show World.cell? _ _ = _ ∧ World.cell? _ _ = _ from ⟨(X4.below (belDr (belA1 (belA1 (belR _))))).1.1, (X4.below (belDr (belA1 (belA1 (belR _))))).1.2.1⟩) (fun hHeld => ?_)
        clear hK K
        try simp only [Act.put, List.getElem_toArray, List.getElem_cons_zero, List.getElem_cons_succ, List.setIfInBounds_toArray, List.set_cons_zero, List.set_cons_succ]
        refine wpAnyH_take (i := 13) (oi := _) (v := ?_) rfl (by kernel_rfl) (by kernel_rfl) (by kernel_rfl) (fun _ _ _ h => h) (Or.inl ⟨by rfl, ?_⟩) (by assumption) ?_
        rotate_left
        · intro w hSw
          (try dsimp only at hSw)
          go_simp
          try with_reducible rfl
        try simp only [Act.put, List.getElem_toArray, List.getElem_cons_zero, List.getElem_cons_succ, List.setIfInBounds_toArray, List.set_cons_zero, List.set_cons_succ]
        refine wpAnyH_ready (rs := [14]) (by kernel_rfl) (by simp) ?_
        refine AllReadyH.cons (o := _) rfl (fun K hK => ?_) AllReadyH.nil
        go_simp
        refine hK.out _ _ (show World.cell? _ _ = _ ∧ World.cell? _ _ = _ from ⟨(X4.below (belDr (belA1 (belA1 (belR _))))).1.1, (X4.below (belDr (belA1 (belA1 (belR _))))).1.2.1⟩) (fun hHeld => ?_)
        clear hK K
        try simp only [Act.put, List.getElem_toArray, List.getElem_cons_zero, List.getElem_cons_succ, List.setIfInBounds_toArray, List.set_cons_zero, List.set_cons_succ]
        refine wpAnyH_take (i := 15) (oi := _) (v := ?_) rfl (by kernel_rfl) (by kernel_rfl) (by kernel_rfl) (fun _ _ _ h => h) (Or.inl ⟨by rfl, ?_⟩) (by assumption) ?_
        rotate_left
        · intro w hSw
          (try dsimp only at hSw)
          go_simp
          try with_reducible rfl
        try simp only [Act.put, List.getElem_toArray, List.getElem_cons_zero, List.getElem_cons_succ, List.setIfInBounds_toArray, List.set_cons_zero, List.set_cons_succ]
        refine wpAnyH_ready (rs := [17]) (by kernel_rfl) (by simp) ?_
        refine AllReadyH.cons (o := _) rfl (fun K hK => ?_) AllReadyH.nil
        go_simp
        have HG : GB ((wc.alloc (.cells #[.int .i64 xl, .int .i64 (xd + (k6 : Int)), .int .i64 (c7 : Int)] 45)).alloc (.cells #[.int .i64 1, .int .i64 2, .int .i64 4] 3)).drew wc.heap.size xl (xd + (k6 : Int)) c7 := ((GB.new wc xl (xd + (k6 : Int)) c7 45).below (belA1 (belR _))).drew
        refine hK.out _ _ ⟨(X4.below (belDr (belA2 (belR _)))).1.1, (X4.below (belDr (belA2 (belR _)))).1.2.1⟩ (fun hHeld => ?_)
        clear hK K
        try simp only [Act.put, List.getElem_toArray, List.getElem_cons_zero, List.getElem_cons_succ, List.setIfInBounds_toArray, List.set_cons_zero, List.set_cons_succ]
        refine wpAnyH_done (by kernel_rfl) ?_ _
        go_wp2
        go_meet
        case rel => exact ⟨wc.heap.size, xd + (k6 : Int), c7, rfl, by have := HZ4.out; omega, (by simp <;> omega), HG, by omega, by omega, by omega, X4.below (belDr (belA2 (belR _))), R04.below (belDr (belA2 (belR _))), R14.below (belDr (belA2 (belR _))), belDr (belA2 B4)⟩
  clear hw3
  obtain ⟨g, yd, c7, rfl, g4, g5, HG, y1, y2, hc74, HX, HR0, HR1, B5⟩ := hcut
  have hx56 : xl = 5 ∨ xl = 6 := by omega
  rcases hx56 with rfl | rfl
  · have HGh := Lib.hid HG
    have HXh := Lib.hid HX
    obtain ⟨⟨q0, q1, q2⟩, r0, r1, r2⟩ := HG
    obtain ⟨⟨x0, x1, x2⟩, s0, s1, s2⟩ := HX
    go_wp2_with fail
    refine Calls.mono (within_ex (b.tdiv 9) 2 _ (by decide) (by decide) (HB.out _ (by decide))) ?_
    rintro e wa ⟨k8, rfl, hk8, rfl⟩
    obtain ⟨bk, hbk⟩ : ∃ bk, ((k8 : Int) == 1) = bk := ⟨_, rfl⟩
    go_upto_if 58 with (fail)
    clear hbk
    go_cut [] from 59 (fun W => Hid (PI w g 5 xd c3 c7 W))
    case first =>
      cases bk with
      | true =>
        go_wp2_with fail
        all_goals
          have hP := (HGh.out.one 6).1
          first | (have O8 := Lib.hid (show PI w g 5 xd c3 c7 _ from ⟨6, _, by omega, by omega, by omega, by omega, (hP.one (xd + 1)).2.1, (HXh.out.cell (by omega)).cell (by omega), (HR0.cell (by omega)).cell (by omega), (HR1.cell (by omega)).cell (by omega), (B5.setCell (p := ⟨g, 0, none⟩) (by show w.heap.size ≤ g; omega) _).setCell (p := ⟨g, 1, none⟩) (by show w.heap.size ≤ g; omega) _⟩); go_meet; case rel => exact O8) | (have O8 := Lib.hid (show PI w g 5 xd c3 c7 _ from ⟨6, _, by omega, by omega, by omega, by omega, (hP.one yd).2.1, (HXh.out.cell (by omega)).cell (by omega), (HR0.cell (by omega)).cell (by omega), (HR1.cell (by omega)).cell (by omega), (B5.setCell (p := ⟨g, 0, none⟩) (by show w.heap.size ≤ g; omega) _).setCell (p := ⟨g, 1, none⟩) (by show w.heap.size ≤ g; omega) _⟩); go_meet; case rel => exact O8)
      | false =>
        go_wp2_with fail
        have O8 := Lib.hid (show PI w g 5 xd c3 c7 _ from ⟨5, yd, by omega, by omega, by omega, by omega, HGh.out, HXh.out, HR0, HR1, B5⟩)
        go_meet
        case rel => exact O8
    have OP := hcut
    clear q0 q1 q2 r0 r1 r2 x0 x1 x2 s0 s1 s2 HR0 HR1 B5 HGh HXh
    obtain ⟨yl, yd2, l1, l2, d1, d2, HG, HX, HR0, HR1, B5⟩ := OP.out
    clear OP
    have HGh := Lib.hid HG
    have HXh := Lib.hid HX
    obtain ⟨⟨q0, q1, q2⟩, r0, r1, r2⟩ := HG
    obtain ⟨⟨x0, x1, x2⟩, s0, s1, s2⟩ := HX
    obtain ⟨cb, hcb⟩ : ∃ cb, (Geo.mk 5 xd c3).can (Geo.mk yl yd2 c7) = cb := ⟨_, rfl⟩
    have HCB := Lib.hid hcb
    clear hcb
    go_upto_if 70 with (go_at_call 65; refine Calls.mono (refcan_any 5 xd c3 yl yd2 c7 _ ⟨by omega, by omega⟩ ⟨by omega, by omega⟩ ⟨by omega, by omega⟩ ⟨by omega, by omega⟩ ⟨by omega, by omega⟩ ⟨by omega, by omega⟩) ?_; rw [HCB.out]; rintro e wc2 ⟨rfl, bc⟩)
    have HG2 := HGh.out.below bc
    have HX2 := Lib.hid (HXh.out.below bc)
    have HR02 := HR0.below bc
    have HR12 := HR1.below bc
    have B52 := belT B5 bc
    clear q0 q1 q2 r0 r1 r2 x0 x1 x2 s0 s1 s2 HGh HXh HR0 HR1 B5
    have HGh := Lib.hid HG2
    obtain ⟨⟨q0, q1, q2⟩, r0, r1, r2⟩ := HG2
    go_cut [] from 71 (fun W => Hid (PJ w g 5 xd c3 c7 W))
    case first =>
      cases cb with
      | false =>
        go_wp2_with fail
        have O8 := Lib.hid (show PJ w g 5 xd c3 c7 _ from ⟨yl, yd2 + 1, by omega, by omega, by omega, by omega, (HGh.out.one (yd2 + 1)).2.1, HX2.out.cell (by omega), HR02.cell (by omega), HR12.cell (by omega), B52.setCell (p := ⟨g, 1, none⟩) (by show w.heap.size ≤ g; omega) _⟩)
        go_meet
        case rel => exact O8
      | true =>
        go_wp2_with fail
        have O8 := Lib.hid (show PJ w g 5 xd c3 c7 _ from ⟨yl, yd2, by omega, by omega, by omega, by omega, HGh.out, HX2.out, HR02, HR12, B52⟩)
        go_meet
        case rel => exact O8
    have OP := hcut
    clear q0 q1 q2 r0 r1 r2 HGh HX2 HR02 HR12 B52 bc HCB
    obtain ⟨yl, yd3, l1, l2, d1, d2, HG, HX, HR0, HR1, B5⟩ := OP.out
    clear OP
    have HGh := Lib.hid HG
    have HXh := Lib.hid HX
    obtain ⟨⟨q0, q1, q2⟩, r0, r1, r2⟩ := HG
    obtain ⟨⟨x0, x1, x2⟩, s0, s1, s2⟩ := HX
    go_wp2_with fail
    obtain ⟨⟨t0, t1, t2⟩, v0, v1, v2⟩ := (show GB wc w.heap.size 0 0 0 from HR0)
    refine wp_region_held_drew (S := fun W => (W.cell? ⟨w.heap.size + 1 + 1 + 1, 0, none⟩ = some (.int .i64 5) ∧ W.cell? ⟨w.heap.size + 1 + 1 + 1, 1, none⟩ = some (.int .i64 xd) ∧ W.cell? ⟨w.heap.size + 1 + 1 + 1, 2, none⟩ = some (.int .i64 (c3 : Int))) ∧ W.cell? ⟨g, 0, none⟩ = some (.int .i64 yl) ∧ W.cell? ⟨g, 1, none⟩ = some (.int .i64 yd3) ∧ W.cell? ⟨g, 2, none⟩ = some (.int .i64 (c7 : Int))) (by kernel_rfl) (show (World.cell? _ _ = _ ∧ World.cell? _ _ = _ ∧ World.cell? _ _ = _) ∧ World.cell? _ _ = _ ∧ World.cell? _ _ = _ ∧ World.cell? _ _ = _ from ⟨HXh.out.drew.1, HGh.out.drew.1⟩) (fun hHeld => ?_)
    refine wpAnyH_take (i := 0) (oi := _) (v := ?_) rfl (by kernel_rfl) (by kernel_rfl) (by kernel_rfl) (fun _ _ _ h => h) (Or.inl ⟨by rfl, ?_⟩) (by assumption) ?_
    rotate_left
    · intro w hSw
      (try dsimp only at hSw)
      go_simp
      try with_reducible rfl
    try simp only [Act.put, List.getElem_toArray, List.getElem_cons_zero, List.getElem_cons_succ, List.setIfInBounds_toArray, List.set_cons_zero, List.set_cons_succ]
    refine wpAnyH_take (i := 1) (oi := _) (v := ?_) rfl (by kernel_rfl) (by kernel_rfl) (by kernel_rfl) (fun _ _ _ h => h) (Or.inl ⟨by rfl, ?_⟩) (by assumption) ?_
    rotate_left
    · intro w hSw
      (try dsimp only at hSw)
      go_simp
      try with_reducible rfl
    try simp only [Act.put, List.getElem_toArray, List.getElem_cons_zero, List.getElem_cons_succ, List.setIfInBounds_toArray, List.set_cons_zero, List.set_cons_succ]
    refine wpAnyH_ready (rs := [2]) (by kernel_rfl) (by simp) ?_
    refine AllReadyH.cons (o := _) rfl (fun K hK => ?_) AllReadyH.nil
    go_simp
    have hX2 := (HXh.out.cells (k := w.heap.size) (v0 := (.int .i64 5)) (v1 := (.int .i64 xd)) (v2 := (.int .i64 (c3 : Int))) (by omega))
    have hG2 := (HGh.out.cells (k := w.heap.size) (v0 := (.int .i64 5)) (v1 := (.int .i64 xd)) (v2 := (.int .i64 (c3 : Int))) (by omega))
    have hR02 := HR0.all 5 xd c3
    have hR12 := (HR1.cells (k := w.heap.size) (v0 := (.int .i64 5)) (v1 := (.int .i64 xd)) (v2 := (.int .i64 (c3 : Int))) (by omega))
    have hB2 := ((B5.setCell (p := ⟨w.heap.size, 0, none⟩) (Nat.le_refl _) (.int .i64 5)).setCell (p := ⟨w.heap.size, 1, none⟩) (Nat.le_refl _) (.int .i64 xd)).setCell (p := ⟨w.heap.size, 2, none⟩) (Nat.le_refl _) (.int .i64 (c3 : Int))
    refine hK.out _ _ (show (World.cell? _ _ = _ ∧ World.cell? _ _ = _ ∧ World.cell? _ _ = _) ∧ World.cell? _ _ = _ ∧ World.cell? _ _ = _ ∧ World.cell? _ _ = _ from ⟨hX2.drew.1, hG2.drew.1⟩) (fun hHeld => ?_)
    clear hK K
    try simp only [Act.put, List.getElem_toArray, List.getElem_cons_zero, List.getElem_cons_succ, List.setIfInBounds_toArray, List.set_cons_zero, List.set_cons_succ]
    refine wpAnyH_ready (rs := [3]) (by kernel_rfl) (by simp) ?_
    refine AllReadyH.cons (o := _) rfl (fun K hK => ?_) AllReadyH.nil
    clear t0 t1 t2 v0 v1 v2
    have hR12h := Lib.hid hR12
    obtain ⟨⟨t0, t1, t2⟩, v0, v1, v2⟩ := hR12
    go_simp
    have hX3 := (hX2.cells (k := w.heap.size + 1) (v0 := (.int .i64 yl)) (v1 := (.int .i64 yd3)) (v2 := (.int .i64 (c7 : Int))) (by omega))
    have hG3 := (hG2.cells (k := w.heap.size + 1) (v0 := (.int .i64 yl)) (v1 := (.int .i64 yd3)) (v2 := (.int .i64 (c7 : Int))) (by omega))
    have hR03 := (hR02.cells (k := w.heap.size + 1) (v0 := (.int .i64 yl)) (v1 := (.int .i64 yd3)) (v2 := (.int .i64 (c7 : Int))) (by omega))
    have hR13 := hR12h.out.all yl yd3 c7
    have hB3 := ((hB2.setCell (p := ⟨w.heap.size + 1, 0, none⟩) (by show w.heap.size ≤ w.heap.size + 1; omega) (.int .i64 yl)).setCell (p := ⟨w.heap.size + 1, 1, none⟩) (by show w.heap.size ≤ w.heap.size + 1; omega) (.int .i64 yd3)).setCell (p := ⟨w.heap.size + 1, 2, none⟩) (by show w.heap.size ≤ w.heap.size + 1; omega) (.int .i64 (c7 : Int))
    refine hK.out _ _ (show (World.cell? _ _ = _ ∧ World.cell? _ _ = _ ∧ World.cell? _ _ = _) ∧ World.cell? _ _ = _ ∧ World.cell? _ _ = _ ∧ World.cell? _ _ = _ from ⟨hX3.drew.1, hG3.drew.1⟩) (fun hHeld => ?_)
    clear hK K
    try simp only [Act.put, List.getElem_toArray, List.getElem_cons_zero, List.getElem_cons_succ, List.setIfInBounds_toArray, List.set_cons_zero, List.set_cons_succ]
    refine wpAnyH_done (by kernel_rfl) ?_ _
    go_wp2
    obtain ⟨⟨m0, m1, m2⟩, _⟩ := hR03
    obtain ⟨⟨n0, n1, n2⟩, _⟩ := hR13
    refine bodyPost_ret (v := .tuple #[.agg #[.int .i64 5, .int .i64 xd, .int .i64 (c3 : Int)], .agg #[.int .i64 yl, .int .i64 yd3, .int .i64 (c7 : Int)]]) (by simp [results, Try.results48, go_sem, m0, m1, m2, n0, n1, n2]) rfl ⟨5, xd, c3, yl, yd3, c7, rfl, ⟨⟨by dsimp only; omega, by dsimp only; omega⟩, ⟨by dsimp only; omega, by dsimp only; omega⟩, ⟨by dsimp only; omega, by dsimp only; omega⟩⟩, ⟨⟨by dsimp only; omega, by dsimp only; omega⟩, ⟨by dsimp only; omega, by dsimp only; omega⟩, ⟨by dsimp only; omega, by dsimp only; omega⟩⟩, belDr hB3⟩
  · have HGh := Lib.hid HG
    have HXh := Lib.hid HX
    obtain ⟨⟨q0, q1, q2⟩, r0, r1, r2⟩ := HG
    obtain ⟨⟨x0, x1, x2⟩, s0, s1, s2⟩ := HX
    have OP := Lib.hid (show PI w g 6 xd c3 c7 _ from ⟨6, yd, by omega, by omega, by omega, by omega, HGh.out, HXh.out, HR0, HR1, B5⟩)
    go_upto_if 58 with (fail)
    skip
    clear q0 q1 q2 r0 r1 r2 x0 x1 x2 s0 s1 s2 HR0 HR1 B5 HGh HXh
    obtain ⟨yl, yd2, l1, l2, d1, d2, HG, HX, HR0, HR1, B5⟩ := OP.out
    clear OP
    have HGh := Lib.hid HG
    have HXh := Lib.hid HX
    obtain ⟨⟨q0, q1, q2⟩, r0, r1, r2⟩ := HG
    obtain ⟨⟨x0, x1, x2⟩, s0, s1, s2⟩ := HX
    obtain ⟨cb, hcb⟩ : ∃ cb, (Geo.mk 6 xd c3).can (Geo.mk yl yd2 c7) = cb := ⟨_, rfl⟩
    have HCB := Lib.hid hcb
    clear hcb
    go_upto_if 70 with (go_at_call 65; refine Calls.mono (refcan_any 6 xd c3 yl yd2 c7 _ ⟨by omega, by omega⟩ ⟨by omega, by omega⟩ ⟨by omega, by omega⟩ ⟨by omega, by omega⟩ ⟨by omega, by omega⟩ ⟨by omega, by omega⟩) ?_; rw [HCB.out]; rintro e wc2 ⟨rfl, bc⟩)
    have HG2 := HGh.out.below bc
    have HX2 := Lib.hid (HXh.out.below bc)
    have HR02 := HR0.below bc
    have HR12 := HR1.below bc
    have B52 := belT B5 bc
    clear q0 q1 q2 r0 r1 r2 x0 x1 x2 s0 s1 s2 HGh HXh HR0 HR1 B5
    have HGh := Lib.hid HG2
    obtain ⟨⟨q0, q1, q2⟩, r0, r1, r2⟩ := HG2
    go_cut [] from 71 (fun W => Hid (PJ w g 6 xd c3 c7 W))
    case first =>
      cases cb with
      | false =>
        go_wp2_with fail
        have O8 := Lib.hid (show PJ w g 6 xd c3 c7 _ from ⟨yl, yd2 + 1, by omega, by omega, by omega, by omega, (HGh.out.one (yd2 + 1)).2.1, HX2.out.cell (by omega), HR02.cell (by omega), HR12.cell (by omega), B52.setCell (p := ⟨g, 1, none⟩) (by show w.heap.size ≤ g; omega) _⟩)
        go_meet
        case rel => exact O8
      | true =>
        go_wp2_with fail
        have O8 := Lib.hid (show PJ w g 6 xd c3 c7 _ from ⟨yl, yd2, by omega, by omega, by omega, by omega, HGh.out, HX2.out, HR02, HR12, B52⟩)
        go_meet
        case rel => exact O8
    have OP := hcut
    clear q0 q1 q2 r0 r1 r2 HGh HX2 HR02 HR12 B52 bc HCB
    obtain ⟨yl, yd3, l1, l2, d1, d2, HG, HX, HR0, HR1, B5⟩ := OP.out
    clear OP
    have HGh := Lib.hid HG
    have HXh := Lib.hid HX
    obtain ⟨⟨q0, q1, q2⟩, r0, r1, r2⟩ := HG
    obtain ⟨⟨x0, x1, x2⟩, s0, s1, s2⟩ := HX
    go_wp2_with fail
    obtain ⟨⟨t0, t1, t2⟩, v0, v1, v2⟩ := (show GB wc w.heap.size 0 0 0 from HR0)
    refine wp_region_held_drew (S := fun W => (W.cell? ⟨w.heap.size + 1 + 1 + 1, 0, none⟩ = some (.int .i64 6) ∧ W.cell? ⟨w.heap.size + 1 + 1 + 1, 1, none⟩ = some (.int .i64 xd) ∧ W.cell? ⟨w.heap.size + 1 + 1 + 1, 2, none⟩ = some (.int .i64 (c3 : Int))) ∧ W.cell? ⟨g, 0, none⟩ = some (.int .i64 yl) ∧ W.cell? ⟨g, 1, none⟩ = some (.int .i64 yd3) ∧ W.cell? ⟨g, 2, none⟩ = some (.int .i64 (c7 : Int))) (by kernel_rfl) (show (World.cell? _ _ = _ ∧ World.cell? _ _ = _ ∧ World.cell? _ _ = _) ∧ World.cell? _ _ = _ ∧ World.cell? _ _ = _ ∧ World.cell? _ _ = _ from ⟨HXh.out.drew.1, HGh.out.drew.1⟩) (fun hHeld => ?_)
    refine wpAnyH_take (i := 0) (oi := _) (v := ?_) rfl (by kernel_rfl) (by kernel_rfl) (by kernel_rfl) (fun _ _ _ h => h) (Or.inl ⟨by rfl, ?_⟩) (by assumption) ?_
    rotate_left
    · intro w hSw
      (try dsimp only at hSw)
      go_simp
      try with_reducible rfl
    try simp only [Act.put, List.getElem_toArray, List.getElem_cons_zero, List.getElem_cons_succ, List.setIfInBounds_toArray, List.set_cons_zero, List.set_cons_succ]
    refine wpAnyH_take (i := 1) (oi := _) (v := ?_) rfl (by kernel_rfl) (by kernel_rfl) (by kernel_rfl) (fun _ _ _ h => h) (Or.inl ⟨by rfl, ?_⟩) (by assumption) ?_
    rotate_left
    · intro w hSw
      (try dsimp only at hSw)
      go_simp
      try with_reducible rfl
    try simp only [Act.put, List.getElem_toArray, List.getElem_cons_zero, List.getElem_cons_succ, List.setIfInBounds_toArray, List.set_cons_zero, List.set_cons_succ]
    refine wpAnyH_ready (rs := [2]) (by kernel_rfl) (by simp) ?_
    refine AllReadyH.cons (o := _) rfl (fun K hK => ?_) AllReadyH.nil
    go_simp
    have hX2 := (HXh.out.cells (k := w.heap.size) (v0 := (.int .i64 6)) (v1 := (.int .i64 xd)) (v2 := (.int .i64 (c3 : Int))) (by omega))
    have hG2 := (HGh.out.cells (k := w.heap.size) (v0 := (.int .i64 6)) (v1 := (.int .i64 xd)) (v2 := (.int .i64 (c3 : Int))) (by omega))
    have hR02 := HR0.all 6 xd c3
    have hR12 := (HR1.cells (k := w.heap.size) (v0 := (.int .i64 6)) (v1 := (.int .i64 xd)) (v2 := (.int .i64 (c3 : Int))) (by omega))
    have hB2 := ((B5.setCell (p := ⟨w.heap.size, 0, none⟩) (Nat.le_refl _) (.int .i64 6)).setCell (p := ⟨w.heap.size, 1, none⟩) (Nat.le_refl _) (.int .i64 xd)).setCell (p := ⟨w.heap.size, 2, none⟩) (Nat.le_refl _) (.int .i64 (c3 : Int))
    refine hK.out _ _ (show (World.cell? _ _ = _ ∧ World.cell? _ _ = _ ∧ World.cell? _ _ = _) ∧ World.cell? _ _ = _ ∧ World.cell? _ _ = _ ∧ World.cell? _ _ = _ from ⟨hX2.drew.1, hG2.drew.1⟩) (fun hHeld => ?_)
    clear hK K
    try simp only [Act.put, List.getElem_toArray, List.getElem_cons_zero, List.getElem_cons_succ, List.setIfInBounds_toArray, List.set_cons_zero, List.set_cons_succ]
    refine wpAnyH_ready (rs := [3]) (by kernel_rfl) (by simp) ?_
    refine AllReadyH.cons (o := _) rfl (fun K hK => ?_) AllReadyH.nil
    clear t0 t1 t2 v0 v1 v2
    have hR12h := Lib.hid hR12
    obtain ⟨⟨t0, t1, t2⟩, v0, v1, v2⟩ := hR12
    go_simp
    have hX3 := (hX2.cells (k := w.heap.size + 1) (v0 := (.int .i64 yl)) (v1 := (.int .i64 yd3)) (v2 := (.int .i64 (c7 : Int))) (by omega))
    have hG3 := (hG2.cells (k := w.heap.size + 1) (v0 := (.int .i64 yl)) (v1 := (.int .i64 yd3)) (v2 := (.int .i64 (c7 : Int))) (by omega))
    have hR03 := (hR02.cells (k := w.heap.size + 1) (v0 := (.int .i64 yl)) (v1 := (.int .i64 yd3)) (v2 := (.int .i64 (c7 : Int))) (by omega))
    have hR13 := hR12h.out.all yl yd3 c7
    have hB3 := ((hB2.setCell (p := ⟨w.heap.size + 1, 0, none⟩) (by show w.heap.size ≤ w.heap.size + 1; omega) (.int .i64 yl)).setCell (p := ⟨w.heap.size + 1, 1, none⟩) (by show w.heap.size ≤ w.heap.size + 1; omega) (.int .i64 yd3)).setCell (p := ⟨w.heap.size + 1, 2, none⟩) (by show w.heap.size ≤ w.heap.size + 1; omega) (.int .i64 (c7 : Int))
    refine hK.out _ _ (show (World.cell? _ _ = _ ∧ World.cell? _ _ = _ ∧ World.cell? _ _ = _) ∧ World.cell? _ _ = _ ∧ World.cell? _ _ = _ ∧ World.cell? _ _ = _ from ⟨hX3.drew.1, hG3.drew.1⟩) (fun hHeld => ?_)
    clear hK K
    try simp only [Act.put, List.getElem_toArray, List.getElem_cons_zero, List.getElem_cons_succ, List.setIfInBounds_toArray, List.set_cons_zero, List.set_cons_succ]
    refine wpAnyH_done (by kernel_rfl) ?_ _
    go_wp2
    obtain ⟨⟨m0, m1, m2⟩, _⟩ := hR03
    obtain ⟨⟨n0, n1, n2⟩, _⟩ := hR13
    refine bodyPost_ret (v := .tuple #[.agg #[.int .i64 6, .int .i64 xd, .int .i64 (c3 : Int)], .agg #[.int .i64 yl, .int .i64 yd3, .int .i64 (c7 : Int)]]) (by simp [results, Try.results48, go_sem, m0, m1, m2, n0, n1, n2]) rfl ⟨6, xd, c3, yl, yd3, c7, rfl, ⟨⟨by dsimp only; omega, by dsimp only; omega⟩, ⟨by dsimp only; omega, by dsimp only; omega⟩, ⟨by dsimp only; omega, by dsimp only; omega⟩⟩, ⟨⟨by dsimp only; omega, by dsimp only; omega⟩, ⟨by dsimp only; omega, by dsimp only; omega⟩, ⟨by dsimp only; omega, by dsimp only; omega⟩⟩, belDr hB3⟩
end Go.Proofs.Ytgnnkglmlopldaa
