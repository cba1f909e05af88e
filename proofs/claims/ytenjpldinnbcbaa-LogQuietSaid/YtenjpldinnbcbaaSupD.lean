/- The walk of super.Decode. -/
import Derived.Test.YtenjpldinnbcbaaSupA
import Derived.Test.YtenjpldinnbcbaaBEq
namespace Go.Proofs.Ytenjpldinnbcbaa
open Go.RowKit C
set_option linter.unusedVariables false
set_option linter.unusedSimpArgs false
set_option maxRecDepth 100000
set_option maxHeartbeats 4000000

/-- a Super's cells -/
def sc (s : Sup) : List Value := [.int .i64 s.gen, .int .i64 s.a.l, .int .i64 s.a.d, .int .i64 s.a.c, .int .i64 s.b.l, .int .i64 s.b.d, .int .i64 s.b.c, .bool s.run, .int .i64 s.win, .int .i64 s.ep, .int .i64 s.out]
theorem sc_one (s : Sup) : (sc s).toArray.all (·.oneCell') = true := all_oneCell_toArray (by
  intro v hv
  simp only [sc, List.mem_cons, List.not_mem_nil, or_false] at hv
  rcases hv with rfl | rfl | rfl | rfl | rfl | rfl | rfl | rfl | rfl | rfl | rfl <;> rfl)
theorem agg_sc (g : Int) (x8 x9 x10 x11 x12 x13 x14 x15 x16 x17 x18 : Nat) {v : Int} (h : v = ((x16 * 256 + x17 : Nat) : Int)) :
    Value.agg #[.int .i64 g, .int .i64 x8, .int .i64 x9, .int .i64 x10, .int .i64 x11, .int .i64 x12, .int .i64 x13, .bool ((x14 : Int) == 1), .int .i64 x15, .int .i64 v, .int .i64 x18] = .agg (sc ⟨g, ⟨x8, x9, x10⟩, ⟨x11, x12, x13⟩, x14 == 1, x15, (x16 * 256 + x17 : Nat), x18⟩).toArray := by
  subst h
  have e : ((x14 : Int) == 1) = (x14 == 1) := beq_cast x14 1
  rw [e]
  rfl
theorem super_info : (Try.prog.info? 72).map (·.size) = some 11 := by kernel_rfl
/-- the eleven cells of a box -/
theorem Box.cells11 {W : World} {g : Nat} {s : Sup} (h : Box W g (sc s)) :
    W.cell? ⟨g, 0, none⟩ = some (.int .i64 s.gen) ∧ W.cell? ⟨g, 1, none⟩ = some (.int .i64 s.a.l) ∧ W.cell? ⟨g, 2, none⟩ = some (.int .i64 s.a.d) ∧ W.cell? ⟨g, 3, none⟩ = some (.int .i64 s.a.c) ∧ W.cell? ⟨g, 4, none⟩ = some (.int .i64 s.b.l) ∧ W.cell? ⟨g, 5, none⟩ = some (.int .i64 s.b.d) ∧ W.cell? ⟨g, 6, none⟩ = some (.int .i64 s.b.c) ∧ W.cell? ⟨g, 7, none⟩ = some (.bool s.run) ∧ W.cell? ⟨g, 8, none⟩ = some (.int .i64 s.win) ∧ W.cell? ⟨g, 9, none⟩ = some (.int .i64 s.ep) ∧ W.cell? ⟨g, 10, none⟩ = some (.int .i64 s.out) := by
  have c := fun j v (hv : (sc s)[j]? = some v) => (Nat.zero_add j) ▸ h.range j v hv
  exact ⟨c 0 _ rfl, c 1 _ rfl, c 2 _ rfl, c 3 _ rfl, c 4 _ rfl, c 5 _ rfl, c 6 _ rfl, c 7 _ rfl, c 8 _ rfl, c 9 _ rfl, c 10 _ rfl⟩
theorem Box.free {W : World} {g : Nat} {cs : List Value} (h : Box W g cs) {j : Nat} (hj : j < cs.length) : W.frozen? ⟨g, j, none⟩ = false := there_frozen h.there hj
/-- the first cell stored into -/
theorem Box.first {W : World} {g : Nat} {s : Sup} (h : Box W g (sc s)) (x : Int) : Box (W.setCell ⟨g, 0, none⟩ (.int .i64 x)) g (sc { s with gen := x }) := by
  refine ⟨fun j v hv => ?_, ?_⟩
  · rw [Nat.zero_add]
    cases j with
    | zero =>
      rw [World.cell?_setCell_same _ _ _ h.cells11.1]
      simpa [sc] using hv
    | succ j =>
      rw [World.cell?_setCell_other _ _ _ _ (by simp)]
      have := h.range (j + 1) v (by simpa [sc] using hv)
      simpa using this
  · have := World.there_setCells h.there g 0 [.int .i64 x]
    exact this
theorem sdecode_short (v : Value) (l : List Nat) (w : World) (h : Byt w v l) (hl : l.length ≠ 32) :
    Calls Try.prog 107 #[v] w fun e w' => e = .returned (.tuple #[sv Sup.zero, .int .i64 2]) ∧ Below w.heap.size w w' := by
  obtain ⟨ao, cap, rfl, h1, h2, h0, h3, hA⟩ := h
  have hb : ((l.length : Int) != 32) = true := by rw [bne_iff_ne]; omega
  clear h0 hl
  unfold sv
  go_enter Try.func107, Try.ntmps107
  go_wp2
  exact bodyPost_ret (v := .tuple #[sv Sup.zero, .int .i64 2]) (by simp [results, Try.results107, go_sem, sv, Sup.zero, Geo.zero]) rfl ⟨rfl, belA1 (belR _)⟩
theorem getD_byte {l : List Nat} (h : ∀ c ∈ l, c < 256) (k : Nat) : l.getD k 0 < 256 := by
  by_cases hk : k < l.length
  · have e : l.getD k 0 = l[k] := by simp [List.getD, hk]
    rw [e]; exact h _ (List.getElem_mem hk)
  · have e : l.getD k 0 = 0 := by simp [List.getD, List.getElem?_eq_none (Nat.le_of_not_lt hk)]
    rw [e]; decide
theorem parse_in {l : List Nat} (h : ∀ c ∈ l, c < 256) : (Sup.parse l).In := by
  have g := getD_byte h
  have g8 := g 8; have g9 := g 9; have g10 := g 10; have g11 := g 11; have g12 := g 12; have g13 := g 13; have g15 := g 15; have g16 := g 16; have g17 := g 17; have g18 := g 18
  have hn : num ((l.drop 4).take 4) < 4294967296 := by
    have h1 := num_lt ((l.drop 4).take 4) (fun c hc => h c (List.mem_of_mem_drop (List.mem_of_mem_take hc)))
    have h2 : (256 : Nat) ^ ((l.drop 4).take 4).length ≤ 256 ^ 4 := Nat.pow_le_pow_right (by decide) (List.length_take_le _ _)
    exact Nat.lt_of_lt_of_le h1 h2
  unfold Sup.parse
  refine ⟨⟨?_, ?_⟩, ⟨⟨?_, ?_⟩, ⟨?_, ?_⟩, ⟨?_, ?_⟩⟩, ⟨⟨?_, ?_⟩, ⟨?_, ?_⟩, ⟨?_, ?_⟩⟩, ⟨?_, ?_⟩, ⟨?_, ?_⟩, ⟨?_, ?_⟩⟩ <;> dsimp only <;> omega
/-- what Decode answers -/
def SDec (l : List Nat) (w : World) (e : Ending) (w' : World) : Prop := (e = if Sup.is l then .returned (.tuple #[sv (Sup.parse l), .int .i64 0]) else .returned (.tuple #[sv Sup.zero, .int .i64 2])) ∧ Below w.heap.size w w'
theorem sdecode_full (v : Value) (l : List Nat) (w : World) (h : Byt w v l) (hl : l.length = 32) :
    Calls Try.prog 107 #[v] w (SDec l w) := by
  have h' := h
  obtain ⟨ao, cap, rfl, hc1, hc2⟩ := h.shapeN hl
  have get : ∀ k, k < 32 → ∃ b off, ao = some ⟨b, off, none⟩ ∧ w.cell? ⟨b, off + k, none⟩ = some (.int .u8 (l.getD k 0 : Nat)) ∧ l.getD k 0 < 256 := by
    intro k hk
    obtain ⟨b, off, x, e, hx, hkx, h8⟩ := h.get (k := k) (by omega)
    have e0 : l.getD k 0 = x := by simp [List.getD, hkx.out]
    rw [e0]
    exact ⟨b, off, e, hx, h8⟩
  obtain ⟨b, off, rfl, _⟩ := get 0 (by decide)
  have get' : ∀ k, k < 32 → w.cell? ⟨b, off + k, none⟩ = some (.int .u8 (l.getD k 0 : Nat)) ∧ l.getD k 0 < 256 := by
    intro k hk
    obtain ⟨b', off', e, hx, h8⟩ := get k hk
    cases e
    exact ⟨hx, h8⟩
  have hlt : b < w.heap.size := World.block_lt_of_cell? _ _ (get' 0 (by decide)).1
  obtain ⟨w0, hw0⟩ : ∃ w0, w0 = w.alloc (.cells (sc Sup.zero).toArray 72) := ⟨_, rfl⟩
  have X0 : Hid (Box w0 w.heap.size (sc Sup.zero)) := by rw [hw0]; exact Box.new _ _ _
  have B0 : Below w.heap.size w w0 := by rw [hw0]; exact belA1 (belR _)
  have HW0 := Lib.hid hw0
  have z0 : w0.heap.size = w.heap.size + 1 := by rw [hw0]; simp
  have Z0 := Lib.hid z0
  have HD8 : Hid (Byt w0 (.slice (some ⟨b, off + 8, none⟩) (32 - 8) (cap - 8)) (l.drop 8)) := (h'.drop (k := 8) (by decide)).up B0
  have HD11 : Hid (Byt w0 (.slice (some ⟨b, off + 11, none⟩) (32 - 11) (cap - 11)) (l.drop 11)) := (h'.drop (k := 11) (by decide)).up B0
  have HK : Hid (∀ W, Below w0.heap.size w0 W → W.cell? ⟨b, off + 14, none⟩ = some (.int .u8 (l.getD 14 0 : Nat)) ∧ W.cell? ⟨b, off + 15, none⟩ = some (.int .u8 (l.getD 15 0 : Nat)) ∧ W.cell? ⟨b, off + 16, none⟩ = some (.int .u8 (l.getD 16 0 : Nat)) ∧ W.cell? ⟨b, off + 17, none⟩ = some (.int .u8 (l.getD 17 0 : Nat)) ∧ W.cell? ⟨b, off + 18, none⟩ = some (.int .u8 (l.getD 18 0 : Nat))) := by
    intro W hW
    have hW := belT B0 hW
    have c := fun k (hk : k < 32) => (hW.cell (p := ⟨b, off + k, none⟩) hlt).trans (get' k hk).1
    exact ⟨c 14 (by decide), c 15 (by decide), c 16 (by decide), c 17 (by decide), c 18 (by decide)⟩
  obtain ⟨m, hm⟩ : ∃ m, m = (l.drop 4).take 4 := ⟨_, rfl⟩
  have HBY : Hid (Byt w0 (.slice (some ⟨b, off, none⟩) 32 cap) l) := h'.up B0
  have HM4 : Hid (Byt w0 (.slice (some ⟨b, off + 4, none⟩) 4 (cap - 4)) m) := by
    rw [hm]; exact ((h'.drop (k := 4) (by decide)).take (by decide) (by omega) (by simp only [maxLen]; omega)).up B0
  have HP : Hid (Sup.parse l = ⟨(num m : Nat), ⟨(l.getD 8 0 : Nat), (l.getD 9 0 : Nat), (l.getD 10 0 : Nat)⟩, ⟨(l.getD 11 0 : Nat), (l.getD 12 0 : Nat), (l.getD 13 0 : Nat)⟩, l.getD 14 0 == 1, (l.getD 15 0 : Nat), (l.getD 16 0 * 256 + l.getD 17 0 : Nat), (l.getD 18 0 : Nat)⟩) := by show _ = _; rw [hm]; rfl
  have G8 : Hid ((l.drop 8).getD 0 0 = l.getD 8 0 ∧ (l.drop 8).getD 1 0 = l.getD 9 0 ∧ (l.drop 8).getD 2 0 = l.getD 10 0) := by
    refine ⟨?_, ?_, ?_⟩ <;> simp [List.getD, List.getElem?_drop]
  have G11 : Hid ((l.drop 11).getD 0 0 = l.getD 11 0 ∧ (l.drop 11).getD 1 0 = l.getD 12 0 ∧ (l.drop 11).getD 2 0 = l.getD 13 0) := by
    refine ⟨?_, ?_, ?_⟩ <;> simp [List.getD, List.getElem?_drop]
  have x14b := (get' 14 (by decide)).2
  have x15b := (get' 15 (by decide)).2
  have x16b := (get' 16 (by decide)).2
  have x17b := (get' 17 (by decide)).2
  have x18b := (get' 18 (by decide)).2
  have hor := bor64 (a := l.getD 16 0) (c := l.getD 17 0) (by omega) x17b
  have HL := Lib.hid hl
  have HIS : Hid (Sup.is l = ((Sup.parse l).ok && decide ((Sup.parse l).enc = l))) := by show _ = _; unfold Sup.is; rw [hl]; simp
  have HIN := Lib.hid (parse_in h'.bytes)
  clear get get' hw0 hl h h' hm z0
  generalize l.getD 8 0 = x8 at *
  generalize l.getD 9 0 = x9 at *
  generalize l.getD 10 0 = x10 at *
  generalize l.getD 11 0 = x11 at *
  generalize l.getD 12 0 = x12 at *
  generalize l.getD 13 0 = x13 at *
  generalize l.getD 14 0 = x14 at *
  generalize l.getD 15 0 = x15 at *
  generalize l.getD 16 0 = x16 at *
  generalize l.getD 17 0 = x17 at *
  generalize l.getD 18 0 = x18 at *
  have HOR := Lib.hid hor
  have k16b : IntKind.i64.wrap ((x16 : Int) * 256) = (x16 : Int) * 256 := by rw [IntKind.wrap_i64]; omega
  have n8 : ¬ cap = 8 := by omega
  have n11 : ¬ cap = 11 := by omega
  have n4 : ¬ cap = 4 := by omega
  have k15 : IntKind.i64.wrap (x15 : Int) = (x15 : Int) := by rw [IntKind.wrap_i64]; omega
  have k16 : IntKind.i64.wrap (x16 : Int) = (x16 : Int) := by rw [IntKind.wrap_i64]; omega
  have k17 : IntKind.i64.wrap (x17 : Int) = (x17 : Int) := by rw [IntKind.wrap_i64]; omega
  have k18 : IntKind.i64.wrap (x18 : Int) = (x18 : Int) := by rw [IntKind.wrap_i64]; omega
  go_enter Try.func107, Try.ntmps107
  go_wp2_with fail
  have hrw : Hid (w.alloc (.cells #[.int .i64 0, .int .i64 0, .int .i64 0, .int .i64 0, .int .i64 0, .int .i64 0, .int .i64 0, .bool false, .int .i64 0, .int .i64 0, .int .i64 0] 72) = w0) := HW0.out.symm
  rw [hrw.out]
  go_cut [4] from 13 to 41 (fun s W => ∃ g, s = .pointer (some ⟨g, 0, none⟩) ∧ w0.heap.size ≤ g ∧ g < W.heap.size ∧ Hid (Box W g (sc ⟨0, ⟨x8, x9, x10⟩, ⟨x11, x12, x13⟩, x14 == 1, x15, (x16 * 256 + x17 : Nat), x18⟩)) ∧ Below w0.heap.size w0 W)
  case first =>
    -- REGION
    refine wp_region_held_drew (S := fun W => W.cell? ⟨b, off + 14, none⟩ = some (.int .u8 (x14 : Nat)) ∧ W.cell? ⟨b, off + 15, none⟩ = some (.int .u8 (x15 : Nat)) ∧ W.cell? ⟨b, off + 16, none⟩ = some (.int .u8 (x16 : Nat)) ∧ W.cell? ⟨b, off + 17, none⟩ = some (.int .u8 (x17 : Nat)) ∧ W.cell? ⟨b, off + 18, none⟩ = some (.int .u8 (x18 : Nat))) (by kernel_rfl) (HK.out _ (by iterate 8 try (first | assumption | apply belDr | apply belAlloc | exact belR _))) (fun hHeld => ?_)
    refine wpAnyH_take (i := 0) (oi := _) (v := ?_) rfl (by kernel_rfl) (by kernel_rfl) (by kernel_rfl) (fun _ _ _ h => h) (Or.inl ⟨by rfl, ?_⟩) (by assumption) ?_
    rotate_left
    · intro w hSw
      (try dsimp only at hSw)
      go_simp
      try with_reducible rfl
    try simp only [Act.put, List.getElem_toArray, List.getElem_cons_zero, List.getElem_cons_succ, List.setIfInBounds_toArray, List.set_cons_zero, List.set_cons_succ]
    refine wpAnyH_take (i := 1) (oi := _) (v := ?_) rfl (by kernel_rfl) (by kernel_rfl) (by kernel_rfl) (fun _ _ _ h => h) (Or.inl ⟨by rfl, ?_⟩) (by assumption) ?_
    rotate_left
    · intro w hSw
      (try dsimp only at hSw)
      go_simp
      try with_reducible rfl
    try simp only [Act.put, List.getElem_toArray, List.getElem_cons_zero, List.getElem_cons_succ, List.setIfInBounds_toArray, List.set_cons_zero, List.set_cons_succ]
    refine wpAnyH_take (i := 3) (oi := _) (v := ?_) rfl (by kernel_rfl) (by kernel_rfl) (by kernel_rfl) (fun _ _ _ h => h) (Or.inl ⟨by rfl, ?_⟩) (by assumption) ?_
    rotate_left
    · intro w hSw
      (try dsimp only at hSw)
      go_simp
      try with_reducible rfl
    try simp only [Act.put, List.getElem_toArray, List.getElem_cons_zero, List.getElem_cons_succ, List.setIfInBounds_toArray, List.set_cons_zero, List.set_cons_succ]
    refine wpAnyH_take (i := 4) (oi := _) (v := ?_) rfl (by kernel_rfl) (by kernel_rfl) (by kernel_rfl) (fun _ _ _ h => h) (Or.inl ⟨by rfl, ?_⟩) (by assumption) ?_
    rotate_left
    · intro w hSw
      (try dsimp only at hSw)
      go_simp
      try with_reducible rfl
    try simp only [Act.put, List.getElem_toArray, List.getElem_cons_zero, List.getElem_cons_succ, List.setIfInBounds_toArray, List.set_cons_zero, List.set_cons_succ]
    refine wpAnyH_take (i := 6) (oi := _) (v := ?_) rfl (by kernel_rfl) (by kernel_rfl) (by kernel_rfl) (fun _ _ _ h => h) (Or.inl ⟨by rfl, ?_⟩) (by assumption) ?_
    rotate_left
    · intro w hSw
      (try dsimp only at hSw)
      go_simp
      try with_reducible rfl
    try simp only [Act.put, List.getElem_toArray, List.getElem_cons_zero, List.getElem_cons_succ, List.setIfInBounds_toArray, List.set_cons_zero, List.set_cons_succ]
    refine wpAnyH_take (i := 7) (oi := _) (v := ?_) rfl (by kernel_rfl) (by kernel_rfl) (by kernel_rfl) (fun _ _ _ h => h) (Or.inl ⟨by rfl, ?_⟩) (by assumption) ?_
    rotate_left
    · intro w hSw
      (try dsimp only at hSw)
      go_simp
      try with_reducible rfl
    try simp only [Act.put, List.getElem_toArray, List.getElem_cons_zero, List.getElem_cons_succ, List.setIfInBounds_toArray, List.set_cons_zero, List.set_cons_succ]
    refine wpAnyH_take (i := 8) (oi := _) (v := ?_) rfl (by kernel_rfl) (by kernel_rfl) (by kernel_rfl) (fun _ _ _ h => h) (Or.inl ⟨by rfl, ?_⟩) (by assumption) ?_
    rotate_left
    · intro w hSw
      (try dsimp only at hSw)
      go_simp
      try with_reducible rfl
    try simp only [Act.put, List.getElem_toArray, List.getElem_cons_zero, List.getElem_cons_succ, List.setIfInBounds_toArray, List.set_cons_zero, List.set_cons_succ]
    refine wpAnyH_take (i := 9) (oi := _) (v := ?_) rfl (by kernel_rfl) (by kernel_rfl) (by kernel_rfl) (fun _ _ _ h => h) (Or.inl ⟨by rfl, ?_⟩) (by assumption) ?_
    rotate_left
    · intro w hSw
      (try dsimp only at hSw)
      go_simp
      try with_reducible rfl
    try simp only [Act.put, List.getElem_toArray, List.getElem_cons_zero, List.getElem_cons_succ, List.setIfInBounds_toArray, List.set_cons_zero, List.set_cons_succ]
    refine wpAnyH_take (i := 10) (oi := _) (v := ?_) rfl (by kernel_rfl) (by kernel_rfl) (by kernel_rfl) (fun _ _ _ h => h) (Or.inl ⟨by rfl, ?_⟩) (by assumption) ?_
    rotate_left
    · intro w hSw
      (try dsimp only at hSw)
      go_simp
      try with_reducible rfl
    try simp only [Act.put, List.getElem_toArray, List.getElem_cons_zero, List.getElem_cons_succ, List.setIfInBounds_toArray, List.set_cons_zero, List.set_cons_succ]
    refine wpAnyH_take (i := 11) (oi := _) (v := ?_) rfl (by kernel_rfl) (by kernel_rfl) (by kernel_rfl) (fun _ _ _ h => h) (Or.inl ⟨by rfl, ?_⟩) (by assumption) ?_
    rotate_left
    · intro w hSw
      (try dsimp only at hSw)
      go_simp
      try with_reducible rfl
    try simp only [Act.put, List.getElem_toArray, List.getElem_cons_zero, List.getElem_cons_succ, List.setIfInBounds_toArray, List.set_cons_zero, List.set_cons_succ]
    refine wpAnyH_take (i := 12) (oi := _) (v := ?_) rfl (by kernel_rfl) (by kernel_rfl) (by kernel_rfl) (fun _ _ _ h => h) (Or.inl ⟨by rfl, ?_⟩) (by assumption) ?_
    rotate_left
    · intro w hSw
      (try dsimp only at hSw)
      go_simp
      try with_reducible rfl
    try simp only [Act.put, List.getElem_toArray, List.getElem_cons_zero, List.getElem_cons_succ, List.setIfInBounds_toArray, List.set_cons_zero, List.set_cons_succ]
    refine wpAnyH_take (i := 13) (oi := _) (v := ?_) rfl (by kernel_rfl) (by kernel_rfl) (by kernel_rfl) (fun _ _ _ h => h) (Or.inl ⟨by rfl, ?_⟩) (by assumption) ?_
    rotate_left
    · intro w hSw
      (try dsimp only at hSw)
      go_simp
      try with_reducible rfl
    try simp only [Act.put, List.getElem_toArray, List.getElem_cons_zero, List.getElem_cons_succ, List.setIfInBounds_toArray, List.set_cons_zero, List.set_cons_succ]
    refine wpAnyH_take (i := 14) (oi := _) (v := ?_) rfl (by kernel_rfl) (by kernel_rfl) (by kernel_rfl) (fun _ _ _ h => h) (Or.inl ⟨by rfl, ?_⟩) (by assumption) ?_
    rotate_left
    · intro w hSw
      (try dsimp only at hSw)
      go_simp
      try with_reducible rfl
    try simp only [Act.put, List.getElem_toArray, List.getElem_cons_zero, List.getElem_cons_succ, List.setIfInBounds_toArray, List.set_cons_zero, List.set_cons_succ]
    refine wpAnyH_take (i := 15) (oi := _) (v := ?_) rfl (by kernel_rfl) (by kernel_rfl) (by kernel_rfl) (fun _ _ _ h => h) (Or.inl ⟨by rfl, ?_⟩) (by assumption) ?_
    rotate_left
    · intro w hSw
      (try dsimp only at hSw)
      go_simp
      try with_reducible rfl
    try simp only [Act.put, List.getElem_toArray, List.getElem_cons_zero, List.getElem_cons_succ, List.setIfInBounds_toArray, List.set_cons_zero, List.set_cons_succ]
    refine wpAnyH_take (i := 16) (oi := _) (v := ?_) rfl (by kernel_rfl) (by kernel_rfl) (by kernel_rfl) (fun _ _ _ h => h) (Or.inl ⟨by rfl, ?_⟩) (by assumption) ?_
    rotate_left
    · intro w hSw
      (try dsimp only at hSw)
      go_simp
      try with_reducible rfl
    try simp only [Act.put, List.getElem_toArray, List.getElem_cons_zero, List.getElem_cons_succ, List.setIfInBounds_toArray, List.set_cons_zero, List.set_cons_succ]
    refine wpAnyH_take (i := 17) (oi := _) (v := ?_) rfl (by kernel_rfl) (by kernel_rfl) (by kernel_rfl) (fun _ _ _ h => h) (Or.inl ⟨by rfl, ?_⟩) (by assumption) ?_
    rotate_left
    · intro w hSw
      (try dsimp only at hSw)
      go_simp
      try with_reducible rfl
    try simp only [Act.put, List.getElem_toArray, List.getElem_cons_zero, List.getElem_cons_succ, List.setIfInBounds_toArray, List.set_cons_zero, List.set_cons_succ]
    refine wpAnyH_take (i := 18) (oi := _) (v := ?_) rfl (by kernel_rfl) (by kernel_rfl) (by kernel_rfl) (fun _ _ _ h => h) (Or.inl ⟨by rfl, ?_⟩) (by assumption) ?_
    rotate_left
    · intro w hSw
      (try dsimp only at hSw)
      go_simp
      try with_reducible rfl
    try simp only [Act.put, List.getElem_toArray, List.getElem_cons_zero, List.getElem_cons_succ, List.setIfInBounds_toArray, List.set_cons_zero, List.set_cons_succ]
    refine wpAnyH_take (i := 19) (oi := _) (v := ?_) rfl (by kernel_rfl) (by kernel_rfl) (by kernel_rfl) (fun _ _ _ h => h) (Or.inl ⟨by rfl, ?_⟩) (by assumption) ?_
    rotate_left
    · intro w hSw
      (try dsimp only at hSw)
      go_simp
      try with_reducible rfl
    try simp only [Act.put, List.getElem_toArray, List.getElem_cons_zero, List.getElem_cons_succ, List.setIfInBounds_toArray, List.set_cons_zero, List.set_cons_succ]
    refine wpAnyH_take (i := 20) (oi := _) (v := ?_) rfl (by kernel_rfl) (by kernel_rfl) (by kernel_rfl) (fun _ _ _ h => h) (Or.inl ⟨by rfl, ?_⟩) (by assumption) ?_
    rotate_left
    · intro w hSw
      (try dsimp only at hSw)
      go_simp
      try with_reducible rfl
    try simp only [Act.put, List.getElem_toArray, List.getElem_cons_zero, List.getElem_cons_succ, List.setIfInBounds_toArray, List.set_cons_zero, List.set_cons_succ]
    refine wpAnyH_take (i := 21) (oi := _) (v := ?_) rfl (by kernel_rfl) (by kernel_rfl) (by kernel_rfl) (fun _ _ _ h => h) (Or.inl ⟨by rfl, ?_⟩) (by assumption) ?_
    rotate_left
    · intro w hSw
      (try dsimp only at hSw)
      go_simp
      try with_reducible rfl
    try simp only [Act.put, List.getElem_toArray, List.getElem_cons_zero, List.getElem_cons_succ, List.setIfInBounds_toArray, List.set_cons_zero, List.set_cons_succ]
    refine wpAnyH_take (i := 22) (oi := _) (v := ?_) rfl (by kernel_rfl) (by kernel_rfl) (by kernel_rfl) (fun _ _ _ h => h) (Or.inl ⟨by rfl, ?_⟩) (by assumption) ?_
    rotate_left
    · intro w hSw
      (try dsimp only at hSw)
      go_simp
      try with_reducible rfl
    try simp only [Act.put, List.getElem_toArray, List.getElem_cons_zero, List.getElem_cons_succ, List.setIfInBounds_toArray, List.set_cons_zero, List.set_cons_succ]
    refine wpAnyH_take (i := 23) (oi := _) (v := ?_) rfl (by kernel_rfl) (by kernel_rfl) (by kernel_rfl) (fun _ _ _ h => h) (Or.inl ⟨by rfl, ?_⟩) (by assumption) ?_
    rotate_left
    · intro w hSw
      (try dsimp only at hSw)
      go_simp
      try with_reducible rfl
    try simp only [Act.put, List.getElem_toArray, List.getElem_cons_zero, List.getElem_cons_succ, List.setIfInBounds_toArray, List.set_cons_zero, List.set_cons_succ]
    refine wpAnyH_take (i := 24) (oi := _) (v := ?_) rfl (by kernel_rfl) (by kernel_rfl) (by kernel_rfl) (fun _ _ _ h => h) (Or.inl ⟨by rfl, ?_⟩) (by assumption) ?_
    rotate_left
    · intro w hSw
      (try dsimp only at hSw)
      go_simp
      try with_reducible rfl
    try simp only [Act.put, List.getElem_toArray, List.getElem_cons_zero, List.getElem_cons_succ, List.setIfInBounds_toArray, List.set_cons_zero, List.set_cons_succ]
    refine wpAnyH_take (i := 25) (oi := _) (v := ?_) rfl (by kernel_rfl) (by kernel_rfl) (by kernel_rfl) (fun _ _ _ h => h) (Or.inl ⟨by rfl, ?_⟩) (by assumption) ?_
    rotate_left
    · intro w hSw
      (try dsimp only at hSw)
      go_simp
      try with_reducible rfl
    try simp only [Act.put, List.getElem_toArray, List.getElem_cons_zero, List.getElem_cons_succ, List.setIfInBounds_toArray, List.set_cons_zero, List.set_cons_succ]
    refine wpAnyH_take (i := 26) (oi := _) (v := ?_) rfl (by kernel_rfl) (by kernel_rfl) (by kernel_rfl) (fun _ _ _ h => h) (Or.inl ⟨by rfl, ?_⟩) (by assumption) ?_
    rotate_left
    · intro w hSw
      (try dsimp only at hSw)
      go_simp
      try with_reducible rfl
    try simp only [Act.put, List.getElem_toArray, List.getElem_cons_zero, List.getElem_cons_succ, List.setIfInBounds_toArray, List.set_cons_zero, List.set_cons_succ]
    refine wpAnyH_take (i := 27) (oi := _) (v := ?_) rfl (by kernel_rfl) (by kernel_rfl) (by kernel_rfl) (fun _ _ _ h => h) (Or.inl ⟨by rfl, ?_⟩) (by assumption) ?_
    rotate_left
    · intro w hSw
      (try dsimp only at hSw)
      go_simp
      try with_reducible rfl
    try simp only [Act.put, List.getElem_toArray, List.getElem_cons_zero, List.getElem_cons_succ, List.setIfInBounds_toArray, List.set_cons_zero, List.set_cons_succ]
    refine wpAnyH_ready (rs := [2, 29]) (by kernel_rfl) (by simp) ?_
    refine AllReadyH.cons (o := _) rfl (fun K hK => ?_) (AllReadyH.cons (o := _) rfl (fun K hK => ?_) AllReadyH.nil)
    · go_simp
      refine Calls.mono (geometry_any _ _ _ (l.drop 8) _ ((HD8.out).up (by iterate 8 try (first | assumption | apply belDr | apply belAlloc | exact belR _))) (by decide) (by decide)) ?_
      rw [G8.out.1, G8.out.2.1, G8.out.2.2]
      rintro e wa ⟨rfl, bwa⟩
      have Bwa : Below w0.heap.size w0 wa := belT (by iterate 8 try (first | assumption | apply belDr | apply belAlloc | exact belR _)) bwa
      try go_simp
      refine hK.out _ _ (HK.out _ (by iterate 8 try (first | assumption | apply belDr | apply belAlloc | exact belR _))) (fun hHeld => ?_)
      clear hK K
      try simp only [Act.put, List.getElem_toArray, List.getElem_cons_zero, List.getElem_cons_succ, List.setIfInBounds_toArray, List.set_cons_zero, List.set_cons_succ]
      refine wpAnyH_ready (rs := [5, 29]) (by kernel_rfl) (by simp) ?_
      refine AllReadyH.cons (o := _) rfl (fun K hK => ?_) (AllReadyH.cons (o := _) rfl (fun K hK => ?_) AllReadyH.nil)
      · go_simp
        refine Calls.mono (geometry_any _ _ _ (l.drop 11) _ ((HD11.out).up (by iterate 8 try (first | assumption | apply belDr | apply belAlloc | exact belR _))) (by decide) (by decide)) ?_
        rw [G11.out.1, G11.out.2.1, G11.out.2.2]
        rintro e wb ⟨rfl, bwb⟩
        have Bwb : Below w0.heap.size w0 wb := belT (by iterate 8 try (first | assumption | apply belDr | apply belAlloc | exact belR _)) bwb
        try go_simp
        refine hK.out _ _ (HK.out _ (by iterate 8 try (first | assumption | apply belDr | apply belAlloc | exact belR _))) (fun hHeld => ?_)
        clear hK K
        try simp only [Act.put, List.getElem_toArray, List.getElem_cons_zero, List.getElem_cons_succ, List.setIfInBounds_toArray, List.set_cons_zero, List.set_cons_succ]
        refine wpAnyH_take (i := 28) (oi := _) (v := ?_) rfl (by kernel_rfl) (by kernel_rfl) (by kernel_rfl) (fun _ _ _ h => h) (Or.inl ⟨by rfl, ?_⟩) (by assumption) ?_
        rotate_left
        · intro w hSw
          (try dsimp only at hSw)
          go_simp
          try with_reducible rfl
        try simp only [Act.put, List.getElem_toArray, List.getElem_cons_zero, List.getElem_cons_succ, List.setIfInBounds_toArray, List.set_cons_zero, List.set_cons_succ]
        refine wpAnyH_ready (rs := [29]) (by kernel_rfl) (by simp) ?_
        refine AllReadyH.cons (o := _) rfl (fun K hK => ?_) AllReadyH.nil
        have BX : Box (wb.alloc (.cells (sc Sup.zero).toArray 72)) wb.heap.size (sc Sup.zero) := Box.new _ _ _
        have BZ : Below w0.heap.size w0 (wb.alloc (.cells (sc Sup.zero).toArray 72)) := belAlloc (by iterate 8 try (first | assumption | apply belDr | apply belAlloc | exact belR _)) _
        have gz : w0.heap.size ≤ wb.heap.size := (show Below w0.heap.size w0 wb from (by iterate 8 try (first | assumption | apply belDr | apply belAlloc | exact belR _))).size
        have gs : wb.heap.size < (wb.alloc (.cells (sc Sup.zero).toArray 72)).heap.size := by simp
        go_simp
        refine hK.out _ _ (HK.out _ (by iterate 8 try (first | assumption | apply belDr | apply belAlloc | exact belR _))) (fun hHeld => ?_)
        clear hK K
        try simp only [Act.put, List.getElem_toArray, List.getElem_cons_zero, List.getElem_cons_succ, List.setIfInBounds_toArray, List.set_cons_zero, List.set_cons_succ]
        refine wpAnyH_ready (rs := [30]) (by kernel_rfl) (by simp) ?_
        refine AllReadyH.cons (o := _) rfl (fun K hK => ?_) AllReadyH.nil
        rw [if_pos (by rfl)]
        refine wp_store_mid 72 _ _ rfl wb.heap.size 0 (sc ⟨0, ⟨x8, x9, x10⟩, ⟨x11, x12, x13⟩, x14 == 1, x15, (x16 * 256 + x17 : Nat), x18⟩).toArray rfl (by exact agg_sc 0 x8 x9 x10 x11 x12 x13 x14 x15 x16 x17 x18 (by first | exact HOR.out | rfl | (rw [k16b]; exact HOR.out))) (show World.there _ _ 0 11 from BX.there) (show _ = some 11 from super_info) (sc_one _) ?_
        have BY := BX.store (cs' := (sc ⟨0, ⟨x8, x9, x10⟩, ⟨x11, x12, x13⟩, x14 == 1, x15, (x16 * 256 + x17 : Nat), x18⟩)) rfl
        have BW : Below w0.heap.size w0 _ := Fr.below BZ (Fr.cells _ wb.heap.size 0 (sc ⟨0, ⟨x8, x9, x10⟩, ⟨x11, x12, x13⟩, x14 == 1, x15, (x16 * 256 + x17 : Nat), x18⟩)) BZ.size (fun i hi => by rw [hi]; exact gz)
        have gl : wb.heap.size < (World.setCells _ wb.heap.size 0 (sc ⟨0, ⟨x8, x9, x10⟩, ⟨x11, x12, x13⟩, x14 == 1, x15, (x16 * 256 + x17 : Nat), x18⟩)).heap.size := Nat.lt_of_lt_of_le gs (Fr.cells _ wb.heap.size 0 (sc ⟨0, ⟨x8, x9, x10⟩, ⟨x11, x12, x13⟩, x14 == 1, x15, (x16 * 256 + x17 : Nat), x18⟩)).size
        refine hK.out _ _ (HK.out _ BW) (fun hHeld => ?_)
        clear hK K
        try simp only [Act.put, List.getElem_toArray, List.getElem_cons_zero, List.getElem_cons_succ, List.setIfInBounds_toArray, List.set_cons_zero, List.set_cons_succ]
        refine wpAnyH_done (by kernel_rfl) ?_ _
        go_wp2
        go_meet
        case rel => exact ⟨_, rfl, gz, gl, Lib.hid BY, BW⟩
      · have BX : Box (wa.alloc (.cells (sc Sup.zero).toArray 72)) wa.heap.size (sc Sup.zero) := Box.new _ _ _
        have BZ : Below w0.heap.size w0 (wa.alloc (.cells (sc Sup.zero).toArray 72)) := belAlloc (by iterate 8 try (first | assumption | apply belDr | apply belAlloc | exact belR _)) _
        have gz : w0.heap.size ≤ wa.heap.size := (show Below w0.heap.size w0 wa from (by iterate 8 try (first | assumption | apply belDr | apply belAlloc | exact belR _))).size
        have gs : wa.heap.size < (wa.alloc (.cells (sc Sup.zero).toArray 72)).heap.size := by simp
        go_simp
        refine hK.out _ _ (HK.out _ (by iterate 8 try (first | assumption | apply belDr | apply belAlloc | exact belR _))) (fun hHeld => ?_)
        clear hK K
        try simp only [Act.put, List.getElem_toArray, List.getElem_cons_zero, List.getElem_cons_succ, List.setIfInBounds_toArray, List.set_cons_zero, List.set_cons_succ]
        refine wpAnyH_ready (rs := [5]) (by kernel_rfl) (by simp) ?_
        refine AllReadyH.cons (o := _) rfl (fun K hK => ?_) AllReadyH.nil
        go_simp
        refine Calls.mono (geometry_any _ _ _ (l.drop 11) _ ((HD11.out).up (by iterate 8 try (first | assumption | apply belDr | apply belAlloc | exact belR _))) (by decide) (by decide)) ?_
        rw [G11.out.1, G11.out.2.1, G11.out.2.2]
        rintro e wb ⟨rfl, bwb⟩
        have Bwb : Below w0.heap.size w0 wb := belT (by iterate 8 try (first | assumption | apply belDr | apply belAlloc | exact belR _)) bwb
        have BX := BX.fr (Fr.of_below (S := fun _ => False) bwb) id
        have gs := Nat.lt_of_lt_of_le gs bwb.size
        have BZ := Bwb
        try go_simp
        refine hK.out _ _ (HK.out _ (by iterate 8 try (first | assumption | apply belDr | apply belAlloc | exact belR _))) (fun hHeld => ?_)
        clear hK K
        try simp only [Act.put, List.getElem_toArray, List.getElem_cons_zero, List.getElem_cons_succ, List.setIfInBounds_toArray, List.set_cons_zero, List.set_cons_succ]
        refine wpAnyH_take (i := 28) (oi := _) (v := ?_) rfl (by kernel_rfl) (by kernel_rfl) (by kernel_rfl) (fun _ _ _ h => h) (Or.inl ⟨by rfl, ?_⟩) (by assumption) ?_
        rotate_left
        · intro w hSw
          (try dsimp only at hSw)
          go_simp
          try with_reducible rfl
        try simp only [Act.put, List.getElem_toArray, List.getElem_cons_zero, List.getElem_cons_succ, List.setIfInBounds_toArray, List.set_cons_zero, List.set_cons_succ]
        refine wpAnyH_ready (rs := [30]) (by kernel_rfl) (by simp) ?_
        refine AllReadyH.cons (o := _) rfl (fun K hK => ?_) AllReadyH.nil
        rw [if_pos (by rfl)]
        refine wp_store_mid 72 _ _ rfl wa.heap.size 0 (sc ⟨0, ⟨x8, x9, x10⟩, ⟨x11, x12, x13⟩, x14 == 1, x15, (x16 * 256 + x17 : Nat), x18⟩).toArray rfl (by exact agg_sc 0 x8 x9 x10 x11 x12 x13 x14 x15 x16 x17 x18 (by first | exact HOR.out | rfl | (rw [k16b]; exact HOR.out))) (show World.there _ _ 0 11 from BX.there) (show _ = some 11 from super_info) (sc_one _) ?_
        have BY := BX.store (cs' := (sc ⟨0, ⟨x8, x9, x10⟩, ⟨x11, x12, x13⟩, x14 == 1, x15, (x16 * 256 + x17 : Nat), x18⟩)) rfl
        have BW : Below w0.heap.size w0 _ := Fr.below BZ (Fr.cells _ wa.heap.size 0 (sc ⟨0, ⟨x8, x9, x10⟩, ⟨x11, x12, x13⟩, x14 == 1, x15, (x16 * 256 + x17 : Nat), x18⟩)) BZ.size (fun i hi => by rw [hi]; exact gz)
        have gl : wa.heap.size < (World.setCells _ wa.heap.size 0 (sc ⟨0, ⟨x8, x9, x10⟩, ⟨x11, x12, x13⟩, x14 == 1, x15, (x16 * 256 + x17 : Nat), x18⟩)).heap.size := Nat.lt_of_lt_of_le gs (Fr.cells _ wa.heap.size 0 (sc ⟨0, ⟨x8, x9, x10⟩, ⟨x11, x12, x13⟩, x14 == 1, x15, (x16 * 256 + x17 : Nat), x18⟩)).size
        refine hK.out _ _ (HK.out _ BW) (fun hHeld => ?_)
        clear hK K
        try simp only [Act.put, List.getElem_toArray, List.getElem_cons_zero, List.getElem_cons_succ, List.setIfInBounds_toArray, List.set_cons_zero, List.set_cons_succ]
        refine wpAnyH_done (by kernel_rfl) ?_ _
        go_wp2
        go_meet
        case rel => exact ⟨_, rfl, gz, gl, Lib.hid BY, BW⟩
    · have gdr : w0.drew.heap.size = w0.heap.size := rfl
      have BX : Box (w0.drew.alloc (.cells (sc Sup.zero).toArray 72)) w0.heap.size (sc Sup.zero) := Box.new _ _ _
      have BZ : Below w0.heap.size w0 (w0.drew.alloc (.cells (sc Sup.zero).toArray 72)) := belAlloc (by iterate 8 try (first | assumption | apply belDr | apply belAlloc | exact belR _)) _
      have gz : w0.heap.size ≤ w0.heap.size := (show Below w0.heap.size w0 w0.drew from (by iterate 8 try (first | assumption | apply belDr | apply belAlloc | exact belR _))).size
      have gs : w0.heap.size < (w0.drew.alloc (.cells (sc Sup.zero).toArray 72)).heap.size := by simp
      go_simp
      refine hK.out _ _ (HK.out _ (by iterate 8 try (first | assumption | apply belDr | apply belAlloc | exact belR _))) (fun hHeld => ?_)
      clear hK K
      try simp only [Act.put, List.getElem_toArray, List.getElem_cons_zero, List.getElem_cons_succ, List.setIfInBounds_toArray, List.set_cons_zero, List.set_cons_succ]
      refine wpAnyH_ready (rs := [2]) (by kernel_rfl) (by simp) ?_
      refine AllReadyH.cons (o := _) rfl (fun K hK => ?_) AllReadyH.nil
      go_simp
      refine Calls.mono (geometry_any _ _ _ (l.drop 8) _ ((HD8.out).up (by iterate 8 try (first | assumption | apply belDr | apply belAlloc | exact belR _))) (by decide) (by decide)) ?_
      rw [G8.out.1, G8.out.2.1, G8.out.2.2]
      rintro e wa ⟨rfl, bwa⟩
      have Bwa : Below w0.heap.size w0 wa := belT (by iterate 8 try (first | assumption | apply belDr | apply belAlloc | exact belR _)) bwa
      have BX := BX.fr (Fr.of_below (S := fun _ => False) bwa) id
      have gs := Nat.lt_of_lt_of_le gs bwa.size
      have BZ := Bwa
      try go_simp
      refine hK.out _ _ (HK.out _ (by iterate 8 try (first | assumption | apply belDr | apply belAlloc | exact belR _))) (fun hHeld => ?_)
      clear hK K
      try simp only [Act.put, List.getElem_toArray, List.getElem_cons_zero, List.getElem_cons_succ, List.setIfInBounds_toArray, List.set_cons_zero, List.set_cons_succ]
      refine wpAnyH_ready (rs := [5]) (by kernel_rfl) (by simp) ?_
      refine AllReadyH.cons (o := _) rfl (fun K hK => ?_) AllReadyH.nil
      go_simp
      refine Calls.mono (geometry_any _ _ _ (l.drop 11) _ ((HD11.out).up (by iterate 8 try (first | assumption | apply belDr | apply belAlloc | exact belR _))) (by decide) (by decide)) ?_
      rw [G11.out.1, G11.out.2.1, G11.out.2.2]
      rintro e wb ⟨rfl, bwb⟩
      have Bwb : Below w0.heap.size w0 wb := belT (by iterate 8 try (first | assumption | apply belDr | apply belAlloc | exact belR _)) bwb
      have BX := BX.fr (Fr.of_below (S := fun _ => False) bwb) id
      have gs := Nat.lt_of_lt_of_le gs bwb.size
      have BZ := Bwb
      try go_simp
      refine hK.out _ _ (HK.out _ (by iterate 8 try (first | assumption | apply belDr | apply belAlloc | exact belR _))) (fun hHeld => ?_)
      clear hK K
      try simp only [Act.put, List.getElem_toArray, List.getElem_cons_zero, List.getElem_cons_succ, List.setIfInBounds_toArray, List.set_cons_zero, List.set_cons_succ]
      refine wpAnyH_take (i := 28) (oi := _) (v := ?_) rfl (by kernel_rfl) (by kernel_rfl) (by kernel_rfl) (fun _ _ _ h => h) (Or.inl ⟨by rfl, ?_⟩) (by assumption) ?_
      rotate_left
      · intro w hSw
        (try dsimp only at hSw)
        go_simp
        try with_reducible rfl
      try simp only [Act.put, List.getElem_toArray, List.getElem_cons_zero, List.getElem_cons_succ, List.setIfInBounds_toArray, List.set_cons_zero, List.set_cons_succ]
      refine wpAnyH_ready (rs := [30]) (by kernel_rfl) (by simp) ?_
      refine AllReadyH.cons (o := _) rfl (fun K hK => ?_) AllReadyH.nil
      rw [if_pos (by rfl)]
      refine wp_store_mid 72 _ _ rfl w0.heap.size 0 (sc ⟨0, ⟨x8, x9, x10⟩, ⟨x11, x12, x13⟩, x14 == 1, x15, (x16 * 256 + x17 : Nat), x18⟩).toArray rfl (by exact agg_sc 0 x8 x9 x10 x11 x12 x13 x14 x15 x16 x17 x18 (by first | exact HOR.out | rfl | (rw [k16b]; exact HOR.out))) (show World.there _ _ 0 11 from BX.there) (show _ = some 11 from super_info) (sc_one _) ?_
      have BY := BX.store (cs' := (sc ⟨0, ⟨x8, x9, x10⟩, ⟨x11, x12, x13⟩, x14 == 1, x15, (x16 * 256 + x17 : Nat), x18⟩)) rfl
      have BW : Below w0.heap.size w0 _ := Fr.below BZ (Fr.cells _ w0.heap.size 0 (sc ⟨0, ⟨x8, x9, x10⟩, ⟨x11, x12, x13⟩, x14 == 1, x15, (x16 * 256 + x17 : Nat), x18⟩)) BZ.size (fun i hi => by rw [hi]; exact gz)
      have gl : w0.heap.size < (World.setCells _ w0.heap.size 0 (sc ⟨0, ⟨x8, x9, x10⟩, ⟨x11, x12, x13⟩, x14 == 1, x15, (x16 * 256 + x17 : Nat), x18⟩)).heap.size := Nat.lt_of_lt_of_le gs (Fr.cells _ w0.heap.size 0 (sc ⟨0, ⟨x8, x9, x10⟩, ⟨x11, x12, x13⟩, x14 == 1, x15, (x16 * 256 + x17 : Nat), x18⟩)).size
      refine hK.out _ _ (HK.out _ BW) (fun hHeld => ?_)
      clear hK K
      try simp only [Act.put, List.getElem_toArray, List.getElem_cons_zero, List.getElem_cons_succ, List.setIfInBounds_toArray, List.set_cons_zero, List.set_cons_succ]
      refine wpAnyH_done (by kernel_rfl) ?_ _
      go_wp2
      go_meet
      case rel => exact ⟨_, rfl, gz, gl, Lib.hid BY, BW⟩
  obtain ⟨g, rfl, hg1, hg2, HB, B1⟩ := hcut
  clear k15 k16 k17 k18 hor k16b n8 n11
  go_wp2_with fail
  go_loopw [45] (fun i W => ∃ k x : Nat, k ≤ 4 ∧ i = .int .i64 k ∧ x < 256 ^ k ∧ Hid (num (m.take k) = x) ∧ g < W.heap.size ∧ Hid (Box W g (sc ⟨(x : Nat), ⟨x8, x9, x10⟩, ⟨x11, x12, x13⟩, x14 == 1, x15, (x16 * 256 + x17 : Nat), x18⟩)) ∧ Below w0.heap.size w0 W) (fun i _ => 4 - (intOf i).toNat)
  case atStart => exact ⟨0, 0, by decide, rfl, by decide, Lib.hid rfl, hg2, HB, B1⟩
  case round =>
    clear HB B1 hg2
    obtain ⟨k, x, hk, rfl, hx, HX, hg2, HB, B1⟩ := hrel
    by_cases hkt : k < 4
    · obtain ⟨b', off', c, e, hc, hck, hc8⟩ := (HM4.out.up B1).get (k := k) hkt
      simp only [Option.some.injEq, Addr.mk.injEq] at e
      obtain ⟨rfl, rfl, _⟩ := e
      have hp : (256 : Nat) ^ k ≤ 256 ^ 3 := Nat.pow_le_pow_right (by decide) (by omega)
      have hx2 : x < 16777216 := Nat.lt_of_lt_of_le hx hp
      have hor := bor64 (a := x) (c := c) (by omega) hc8
      have hx3 : x * 256 + c < 256 ^ (k + 1) := by rw [Nat.pow_succ]; omega
      have cg := HB.out.cells11.1
      have fg := HB.out.free (j := 0) (Nat.zero_lt_succ _)
      have HB2 := Lib.hid (HB.out.first ((x * 256 + c : Nat) : Int))
      have HG2 : Hid (g < (wr.setCell ⟨g, 0, none⟩ (.int .i64 ((x * 256 + c : Nat) : Int))).heap.size) := by show g < _; simpa using hg2
      have BS : Below w0.heap.size w0 (wr.setCell ⟨g, 0, none⟩ (.int .i64 ((x * 256 + c : Nat) : Int))) := Fr.below B1 (Fr.cell ⟨g, 0, none⟩ _) B1.size (fun i hi => by rw [hi]; exact hg1)
      clear hp hx
      go_wp2
      go_roundw
      case rel => exact ⟨k + 1, x * 256 + c, by omega, by go_num, hx3, Lib.hid (by rw [take_succ_get hck.out, num_snoc, HX.out]), HG2.out, HB2, BS⟩
      case measure => simp [intOf]; omega
    · have hm4 : m.take k = m := List.take_of_length_le (by have := HM4.out.len; omega)
      have hx' : (x : Nat) = num m := by rw [← HX.out, hm4]
      subst hx'
      obtain ⟨S, hS⟩ : ∃ S : Sup, S = ⟨(num m : Nat), ⟨x8, x9, x10⟩, ⟨x11, x12, x13⟩, x14 == 1, x15, (x16 * 256 + x17 : Nat), x18⟩ := ⟨_, rfl⟩
      have HSP : Hid (Sup.parse l = S) := by show _ = _; rw [hS]; exact HP.out
      rw [← hS] at HB
      have HS := Lib.hid hS
      clear hS hm4 hx
      obtain ⟨d0, d1, d2, d3, d4, d5, d6, d7, d8, d9, d10⟩ := HB.out.cells11
      have hin : S.In := HSP.out ▸ HIN.out
      have XR := X0.out.fr (Fr.of_below (S := fun _ => False) B1) id
      cases hok : S.ok with
      | false =>
        have HIF : Hid (Sup.is l = false) := by show _ = _; rw [HIS.out, HSP.out, hok]; rfl
        have hc := fun W => sencode_no S W hin hok
        unfold sv at hc
        have HC := Lib.hid hc
        have HOK := Lib.hid hok
        clear hc hok
        go_wp2_with (first
          | (go_at_call 75; refine Calls.mono (HC.out _) ?_; rintro e wE ⟨rfl, bE⟩; have BE : Below w.heap.size w wE := belT B0 (belT B1 bE); have XE := XR.fr (Fr.of_below (S := fun _ => False) bE) id)
          | (refine wpList_store_mid rfl 72 (.tmp 2) (.tmp 70) rfl w.heap.size 0 (sc Sup.zero).toArray rfl rfl (show World.there _ _ 0 11 from XE.there) (show _ = some 11 from super_info) (sc_one _) ?_; have XF := XE.store (cs' := sc Sup.zero) rfl; have BF := Fr.below (B := w.heap.size) BE (Fr.cells _ w.heap.size 0 (sc Sup.zero)) BE.size (fun i hi => by rw [hi]; exact Nat.le_refl _); have hsame : (sc Sup.zero).toArray.toList = sc Sup.zero := rfl; rw [hsame]; clear hsame; obtain ⟨f0, f1, f2, f3, f4, f5, f6, f7, f8, f9, f10⟩ := XF.cells11; generalize World.setCells _ w.heap.size 0 (sc Sup.zero) = wF at *))
        refine bodyPost_ret (v := .tuple #[sv Sup.zero, .int .i64 2]) (by simp [results, Try.results107, go_sem, sv, f0, f1, f2, f3, f4, f5, f6, f7, f8, f9, f10]) rfl ⟨?_, BF⟩
        rw [HIF.out]; rfl
      | true =>
        have hcy := fun W => sencode_yes (num m) x8 x9 x10 x11 x12 x13 (x14 == 1) x15 (x16 * 256 + x17) x18 W S HS.out hok
        unfold sv at hcy
        have HC := Lib.hid hcy
        have HOK := Lib.hid hok
        have HLB : Hid (Byt w0 (.slice (some ⟨b, off, none⟩) 32 cap) l) := HBY
        clear hcy hok
        by_cases heq : S.enc = l
        · have HIT : Hid (Sup.is l = true) := by show _ = _; rw [HIS.out, HSP.out, HOK.out, heq]; simp
          have HD : Hid (decide (S.enc = l) = true) := decide_eq_true heq
          clear heq
          go_wp2_with (first
            | (go_at_call 75; refine Calls.mono (HC.out _) ?_; rintro e wE ⟨vE, rfl, OE, bE⟩; have BE : Below w.heap.size w wE := belT B0 (belT B1 bE); have XE := XR.fr (Fr.of_below (S := fun _ => False) bE) id; obtain ⟨i0, i1, i2, i3, i4, i5, i6, i7, i8, i9, i10⟩ := (HB.out.fr (Fr.of_below (S := fun _ => False) bE) id).cells11)
            | (go_at_call 97; refine Calls.mono (bequal_any _ _ _ l _ OE.byt (HLB.out.up (belT B1 bE))) ?_; rw [HD.out]; rintro e wQ ⟨rfl, rfl⟩)
            | (refine wpList_store_mid rfl 72 (.tmp 2) (.tmp 71) rfl w.heap.size 0 (sc S).toArray rfl rfl (show World.there _ _ 0 11 from XE.there) (show _ = some 11 from super_info) (sc_one _) ?_; have XF := XE.store (cs' := sc S) rfl; have BF := Fr.below (B := w.heap.size) BE (Fr.cells _ w.heap.size 0 (sc S)) BE.size (fun i hi => by rw [hi]; exact Nat.le_refl _); have hsame : (sc S).toArray.toList = sc S := rfl; rw [hsame]; clear hsame; obtain ⟨f0, f1, f2, f3, f4, f5, f6, f7, f8, f9, f10⟩ := XF.cells11; generalize World.setCells _ w.heap.size 0 (sc S) = wF at *))
          refine bodyPost_ret (v := .tuple #[sv S, .int .i64 0]) (by simp [results, Try.results107, go_sem, sv, f0, f1, f2, f3, f4, f5, f6, f7, f8, f9, f10]) rfl ⟨?_, BF⟩
          rw [HIT.out, HSP.out]; rfl
        · have HIF : Hid (Sup.is l = false) := by show _ = _; rw [HIS.out, HSP.out, HOK.out, decide_eq_false heq]; rfl
          have HD : Hid (decide (S.enc = l) = false) := decide_eq_false heq
          clear heq
          go_wp2_with (first
            | (go_at_call 75; refine Calls.mono (HC.out _) ?_; rintro e wE ⟨vE, rfl, OE, bE⟩; have BE : Below w.heap.size w wE := belT B0 (belT B1 bE); have XE := XR.fr (Fr.of_below (S := fun _ => False) bE) id)
            | (go_at_call 97; refine Calls.mono (bequal_any _ _ _ l _ OE.byt (HLB.out.up (belT B1 bE))) ?_; rw [HD.out]; rintro e wQ ⟨rfl, rfl⟩)
            | (refine wpList_store_mid rfl 72 (.tmp 2) (.tmp 70) rfl w.heap.size 0 (sc Sup.zero).toArray rfl rfl (show World.there _ _ 0 11 from XE.there) (show _ = some 11 from super_info) (sc_one _) ?_; have XF := XE.store (cs' := sc Sup.zero) rfl; have BF := Fr.below (B := w.heap.size) BE (Fr.cells _ w.heap.size 0 (sc Sup.zero)) BE.size (fun i hi => by rw [hi]; exact Nat.le_refl _); have hsame : (sc Sup.zero).toArray.toList = sc Sup.zero := rfl; rw [hsame]; clear hsame; obtain ⟨f0, f1, f2, f3, f4, f5, f6, f7, f8, f9, f10⟩ := XF.cells11; generalize World.setCells _ w.heap.size 0 (sc Sup.zero) = wF at *))
          refine bodyPost_ret (v := .tuple #[sv Sup.zero, .int .i64 2]) (by simp [results, Try.results107, go_sem, sv, f0, f1, f2, f3, f4, f5, f6, f7, f8, f9, f10]) rfl ⟨?_, BF⟩
          rw [HIF.out]; rfl
theorem sdecode_any (v : Value) (l : List Nat) (w : World) (h : Byt w v l) : Calls Try.prog 107 #[v] w (SDec l w) := by
  by_cases hl : l.length = 32
  · exact sdecode_full v l w h hl
  · refine (sdecode_short v l w h hl).mono fun e w' ⟨he, hb⟩ => ⟨?_, hb⟩
    have : Sup.is l = false := by unfold Sup.is; rw [decide_eq_false hl]; rfl
    rw [this]; exact he
end Go.Proofs.Ytenjpldinnbcbaa
