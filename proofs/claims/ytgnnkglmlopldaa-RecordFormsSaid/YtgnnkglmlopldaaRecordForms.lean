/- The walk of RecordForms (chapter 11). True at every input. -/
import Derived.Test.YtgnnkglmlopldaaRecD
import Derived.Test.YtgnnkglmlopldaaPlay
import Derived.Great.BuildSlice
namespace Go.Proofs.Ytgnnkglmlopldaa
open Go.RowKit C
set_option linter.unusedVariables false
set_option linter.unusedSimpArgs false
set_option maxRecDepth 100000
set_option maxHeartbeats 8000000

theorem wrap_in (n : Int) : -9223372036854775808 ≤ wrap64 n ∧ wrap64 n ≤ 9223372036854775807 := by unfold wrap64; omega
def fA (n : Int) : List RI := [⟨2, 40, secL n⟩, ⟨7, 36, secL (wrap64 (n + 1))⟩]
theorem fA_ok (n : Int) : rok 168496141 (fA n) = true := by
  have h1 : (RI.mk 2 40 (secL n)).fine = true := (RI.fine_iff _).2 ⟨⟨by dsimp only; decide, by dsimp only; decide⟩, ⟨by dsimp only; decide, by dsimp only; decide⟩, secL_len _⟩
  have h2 : (RI.mk 7 36 (secL (wrap64 (n + 1)))).fine = true := (RI.fine_iff _).2 ⟨⟨by dsimp only; decide, by dsimp only; decide⟩, ⟨by dsimp only; decide, by dsimp only; decide⟩, secL_len _⟩
  rw [rok_iff]
  refine ⟨by decide, by show 2 ≤ 3; decide, ?_⟩
  unfold fA
  simp only [RI.good, h1, h2, List.nil_append]
  rfl
theorem fA_head (n : Int) : ((renc 168496141 (fA n)).getD 0 []).take 28 = [87, 82, 69, 67, 10, 11, 12, 13, 2, 2, 40, 7, 36, 0, 0, 0, 0, 0, 0, 0, 0, 0, 0, 0, 0, 0, 0, 0] := by
  show (sealed (rfull 168496141 (fA n)) (rrows (fA n))).take 28 = _
  rw [sealed_take _ (rfull_len _ (show (fA n).length ≤ 3 by show 2 ≤ 3; decide))]
  rfl
theorem fA_rows (n : Int) : rrows (fA n) = [secL n, secL (wrap64 (n + 1)), zero32] := rfl
theorem Items.lit (w : World) (cells : Array Value) (t : TypeId) (T : List (RI × Value)) {m g : Nat} (hm : m = T.length) (hg : g = w.heap.size) (hc : cells.toList = T.flatMap tcells) (hT : ∀ p ∈ T, Byt w p.2 p.1.b ∧ i64b p.1.d ∧ i64b p.1.a) (hl : T.length ≤ 1000) :
    Items (w.alloc (.cells cells t)) (.slice (some ⟨g, 0, none⟩) m m) (T.map Prod.fst) := by
  subst hm
  subst hg
  refine ⟨_, T.length, by rw [List.length_map], by rw [List.length_map]; exact Nat.le_refl _, by simp only [maxLen]; omega, fun e => (by cases e), .inr ⟨w.heap.size, 0, rfl, by simp, fun i x hx => ?_⟩⟩
  rw [List.getElem?_map] at hx
  obtain ⟨p, hp, rfl⟩ := Option.map_eq_some_iff.1 hx
  obtain ⟨h1, h2, h3⟩ := tcells_get T i p hp
  rw [← hc] at h1 h2 h3
  have hcell : ∀ o, (w.alloc (.cells cells t)).cell? ⟨w.heap.size, o, none⟩ = cells.toList[o]? := fun o => by
    rw [cell_of_row _ w.heap.size o cells t _ (heap_alloc_new w _)]; simp
  have hpt := hT p (List.mem_of_getElem? hp)
  refine ⟨p.2, ?_, ?_, ?_, hpt.1.up (belA1 (belR _)), hpt.2⟩
  · rw [Nat.zero_add, hcell]; exact h1
  · rw [Nat.zero_add, hcell]; exact h2
  · rw [Nat.zero_add, hcell]; exact h3
theorem secL_mark (n : Int) : (secL n).take 4 ≠ [87, 82, 69, 67] := by
  intro h
  unfold secL at h
  split at h
  · have := congrArg (fun l => l[0]?) h
    simp at this
  · have h0 : secB n 0 = 87 := by
      have := congrArg (fun l => l[0]?) h
      simpa using this
    have h1 : secB n 1 = 82 := by
      have := congrArg (fun l => l[1]?) h
      simpa using this
    have h2 : secB n 2 = 69 := by
      have := congrArg (fun l => l[2]?) h
      simpa using this
    unfold secB at h0 h1 h2
    generalize bits BinOp.or IntKind.i64 (n.tdiv 7) 1 = q at h0 h1 h2
    unfold wrap64 at h0 h1 h2
    omega
theorem ris_three (a b c : List Nat) : ris [a, b, c] = false := ris_form rfl
theorem ris_mark (n : Int) (b c d : List Nat) : ris [secL n, b, c, d] = false := by
  rw [Bool.eq_false_iff]
  intro h
  obtain ⟨_, h2, h3⟩ := (ris_iff _).1 h
  have h4 := renc_four (rnum [secL n, b, c, d]) (rlist [secL n, b, c, d]) ((rok_iff _ _).1 h2).2.1
  rw [h3] at h4
  exact secL_mark n h4
theorem rok_bad {s : Int} {l : List RI} (x : RI) (hx : x ∈ l) (h : x.fine = false) : rok s l = false := by
  rw [Bool.eq_false_iff]
  intro h2
  have := rok_fine h2 x hx
  rw [h] at this
  cases this
theorem fine_no {x : RI} (h : ¬ ((0 ≤ x.d ∧ x.d ≤ 7) ∧ (36 ≤ x.a ∧ x.a ≤ 51) ∧ x.b.length = 32)) : x.fine = false := by
  rw [Bool.eq_false_iff]; intro e; exact h ((RI.fine_iff x).1 e)
theorem rok_seq {s : Int} {l : List RI} (h : ¬ (1 ≤ s ∧ s ≤ 2147483647)) : rok s l = false := by
  rw [Bool.eq_false_iff]; intro e; exact h ((rok_iff s l).1 e).1
theorem rok_len {s : Int} {l : List RI} (h : ¬ l.length ≤ 3) : rok s l = false := by
  rw [Bool.eq_false_iff]; intro e; exact h ((rok_iff s l).1 e).2.1
theorem rok_twice (s : Int) (x : RI) : rok s [x, x] = false := by
  rw [Bool.eq_false_iff]; intro e
  have := ((rok_iff s _).1 e).2.2
  simp [RI.good, RI.hit, RI.at] at this
/-- a record in a row of records, that may not be -/
def BadR (Z : World) (g j : Nat) : Prop := ∃ (s : Int) (v : Value) (l : List RI), Z.cell? ⟨g, j * 2, none⟩ = some (.int .i64 s) ∧ Z.cell? ⟨g, j * 2 + 1, none⟩ = some v ∧ Items Z v l ∧ i64b s ∧ rok s l = false
theorem recordForms_law (n : Int) (hn : -9223372036854775808 ≤ n ∧ n ≤ 9223372036854775807) (W : World) :
    Calls Try.prog 10 #[.int .i64 n] W fun e W' => e = .returned (.bool true) ∧ Below W.heap.size W W' := by
  obtain ⟨hn1, hn2⟩ := hn
  obtain ⟨j0, hj, hy0, hy1, hy2⟩ := info_parts uint8_info
  go_enter Try.func10, Try.ntmps10
  go_wp2_with fail
  refine Calls.mono (sector_any n W ⟨hn1, hn2⟩) ?_
  rintro e w1 ⟨v1, rfl, O1, b1⟩
  obtain ⟨g1, k1, rfl, _, hl1, hk1, hk1'⟩ := own_shape (n := 32) (by have := O1.2; rwa [secL_len] at this) (by decide)
  go_wp2_with fail
  refine Calls.mono (sector_any (wrap64 (n + 1)) w1 (wrap_in _)) ?_
  rintro e w2 ⟨v2, rfl, O2, b2⟩
  obtain ⟨g2, k2, rfl, _, hl2, hk2, hk2'⟩ := own_shape (n := 32) (by have := O2.2; rwa [secL_len] at this) (by decide)
  have X := O1.byt.up b2
  have Y := O2.byt
  clear O1 O2
  go_wp2_with fail
  refine Calls.mono (rencode_ok 168496141 _ (fA n) _ (Items.lit w2 _ _ [((⟨2, 40, secL n⟩ : RI), Value.slice (some ⟨g1, 0, none⟩) 32 k1), ((⟨7, 36, secL (wrap64 (n + 1))⟩ : RI), Value.slice (some ⟨g2, 0, none⟩) 32 k2)] rfl rfl rfl (fun p hp => by simp only [List.mem_cons, List.not_mem_nil, or_false] at hp; rcases hp with rfl | rfl; exact ⟨X, ⟨by dsimp only; decide, by dsimp only; decide⟩, ⟨by dsimp only; decide, by dsimp only; decide⟩⟩; exact ⟨Y, ⟨by dsimp only; decide, by dsimp only; decide⟩, ⟨by dsimp only; decide, by dsimp only; decide⟩⟩) (by show 2 ≤ 1000; decide)) (fA_ok n)) ?_
  rintro e w3 ⟨v3, rfl, O3, b3⟩
  have B3 : Below w2.heap.size w2 w3 := belT (belA1 (belR _)) b3
  have X3 := X.up B3
  have Y3 := Y.up B3
  have P3 := O3.parts
  obtain ⟨LL, hLL⟩ : ∃ LL, LL = renc 168496141 (fA n) := ⟨_, rfl⟩
  have hL4 : LL.length = 4 := by rw [hLL]; rfl
  rw [← hLL] at O3 P3
  obtain ⟨a3, c3, e3, q1, q2⟩ := O3.shape
  rw [hL4] at e3 q1
  subst e3
  obtain ⟨rb, ro, r0, p0, rfl, hc0, hp0, hy0'⟩ := P3.get (k := 0) (by rw [hL4]; decide)
  obtain ⟨rb', ro', r1, p1, he, hc1, hp1, hy1'⟩ := P3.get (k := 1) (by rw [hL4]; decide)
  cases he
  obtain ⟨rb', ro', r2, p2, he, hc2, hp2, hy2'⟩ := P3.get (k := 2) (by rw [hL4]; decide)
  cases he
  obtain ⟨rb', ro', r3, p3, he, hc3, hp3, hy3'⟩ := P3.get (k := 3) (by rw [hL4]; decide)
  cases he
  have e1 : p1 = secL n := by have h := hp1.out; rw [hLL] at h; exact (Option.some.inj h).symm
  have e2 : p2 = secL (wrap64 (n + 1)) := by have h := hp2.out; rw [hLL] at h; exact (Option.some.inj h).symm
  have e3 : p3 = zero32 := by have h := hp3.out; rw [hLL] at h; exact (Option.some.inj h).symm
  have e0 : p0.take 28 = [87, 82, 69, 67, 10, 11, 12, 13, 2, 2, 40, 7, 36, 0, 0, 0, 0, 0, 0, 0, 0, 0, 0, 0, 0, 0, 0, 0] := by
    have h := hp0.out
    rw [hLL] at h
    rw [← fA_head n, List.getD_eq_getElem?_getD, h]; rfl
  have l0 : p0.length = 32 := by
    have h := List.mem_of_getElem? hp0.out
    rw [hLL] at h
    exact renc_32 (show (fA n).length ≤ 3 by show 2 ≤ 3; decide) (rok_fine (fA_ok n)) p0 h
  subst e1; subst e2; subst e3
  obtain ⟨s0, t0, rfl, _, _⟩ := hy0'.shapeN l0
  obtain ⟨s1, t1, rfl, _, _⟩ := hy1'.shapeN (secL_len _)
  obtain ⟨s2, t2, rfl, _, _⟩ := hy2'.shapeN (secL_len _)
  obtain ⟨s3, t3, rfl, _, _⟩ := hy3'.shapeN (show zero32.length = 32 from rfl)
  rw [Nat.add_zero] at hc0
  have HLL := Lib.hid hLL
  have HR : Hid (∀ Z, Below w3.heap.size w3 Z → Z.cell? ⟨rb, ro, none⟩ = some (.slice s0 32 t0) ∧ Z.cell? ⟨rb, ro + 1, none⟩ = some (.slice s1 32 t1) ∧ Z.cell? ⟨rb, ro + 2, none⟩ = some (.slice s2 32 t2) ∧ Z.cell? ⟨rb, ro + 3, none⟩ = some (.slice s3 32 t3)) := fun Z hZ => ⟨cell_fr hc0 (Fr.of_below (S := fun _ => False) hZ) id, cell_fr hc1 (Fr.of_below (S := fun _ => False) hZ) id, cell_fr hc2 (Fr.of_below (S := fun _ => False) hZ) id, cell_fr hc3 (Fr.of_below (S := fun _ => False) hZ) id⟩
  have T0 := Lib.hid (hy0'.takeI (k := 28) (by decide))
  rw [e0] at T0
  have Y0 := Lib.hid hy0'
  have Y1 := Lib.hid hy1'
  have Y2 := Lib.hid hy2'
  have Y3' := Lib.hid hy3'
  have X3 := Lib.hid X3
  have Y3 := Lib.hid Y3
  have P3 := Lib.hid P3
  clear X Y O3 hLL hL4 hp0 hp1 hp2 hp3 hy0' hy1' hy2' hy3' e0
  obtain ⟨WT, hWT⟩ : ∃ WT : List Nat, WT = [87, 82, 69, 67, 10, 11, 12, 13, 2, 2, 40, 7, 36, 0, 0, 0, 0, 0, 0, 0, 0, 0, 0, 0, 0, 0, 0, 0] := ⟨_, rfl⟩
  rw [← hWT] at T0
  have HWT := Lib.hid hWT
  clear hWT
  have k28 : (28 : Int) ≤ (t0 : Int) := by omega
  have hk28 : ¬ t0 = 28 := by omega
  go_wp2_with fail
  obtain ⟨wL, hwL⟩ : ∃ wL, wL = w3.alloc (.cells #[.int .u8 87, .int .u8 82, .int .u8 69, .int .u8 67, .int .u8 10, .int .u8 11, .int .u8 12, .int .u8 13, .int .u8 2, .int .u8 2, .int .u8 40, .int .u8 7, .int .u8 36, .int .u8 0, .int .u8 0, .int .u8 0, .int .u8 0, .int .u8 0, .int .u8 0, .int .u8 0, .int .u8 0, .int .u8 0, .int .u8 0, .int .u8 0, .int .u8 0, .int .u8 0, .int .u8 0, .int .u8 0] 5) := ⟨_, rfl⟩
  rw [← hwL]
  have BL : Below w3.heap.size w3 wL := by rw [hwL]; exact belA1 (belR _)
  have HW28 : Hid (Byt wL (.slice (some ⟨w3.heap.size, 0, none⟩) 28 28) WT) := by
    show Byt _ _ _
    rw [hwL, HWT.out]
    exact Byt.lit w3 _ _ [87, 82, 69, 67, 10, 11, 12, 13, 2, 2, 40, 7, 36, 0, 0, 0, 0, 0, 0, 0, 0, 0, 0, 0, 0, 0, 0, 0] rfl rfl rfl (by decide) (by decide)
  clear hwL
  refine wp_region_held_drew (S := fun Z => Z.cell? ⟨rb, ro, none⟩ = some (.slice s0 32 t0) ∧ Z.cell? ⟨rb, ro + 1, none⟩ = some (.slice s1 32 t1) ∧ Z.cell? ⟨rb, ro + 2, none⟩ = some (.slice s2 32 t2) ∧ Z.cell? ⟨rb, ro + 3, none⟩ = some (.slice s3 32 t3)) (by kernel_rfl) (show World.cell? _ _ = _ ∧ World.cell? _ _ = _ ∧ World.cell? _ _ = _ ∧ World.cell? _ _ = _ from HR.out _ (belT BL (by iterate 8 try (first | assumption | exact belR _ | apply belDr | apply belAlloc)))) (fun hHeld => ?_)
  refine wpAnyH_take (i := 0) (oi := _) (v := ?_) rfl (by kernel_rfl) (by kernel_rfl) (by kernel_rfl) (fun _ _ _ h => h) (Or.inl ⟨by rfl, ?_⟩) (by assumption) ?_
  rotate_left
  · intro w hSw
    (try dsimp only at hSw)
    go_simp
    try with_reducible rfl
  try simp only [Act.put, List.getElem_toArray, List.getElem_cons_zero, List.getElem_cons_succ, List.setIfInBounds_toArray, List.set_cons_zero, List.set_cons_succ]
  refine wpAnyH_take (i := 4) (oi := _) (v := ?_) rfl (by kernel_rfl) (by kernel_rfl) (by kernel_rfl) (fun _ _ _ h => h) (Or.inl ⟨by rfl, ?_⟩) (by assumption) ?_
  rotate_left
  · intro w hSw
    (try dsimp only at hSw)
    go_simp
    try with_reducible rfl
  try simp only [Act.put, List.getElem_toArray, List.getElem_cons_zero, List.getElem_cons_succ, List.setIfInBounds_toArray, List.set_cons_zero, List.set_cons_succ]
  refine wpAnyH_take (i := 1) (oi := _) (v := ?_) rfl (by kernel_rfl) (by kernel_rfl) (by kernel_rfl) (fun _ _ _ h => h) (Or.inl ⟨by rfl, ?_⟩) (by assumption) ?_
  rotate_left
  · intro w hSw
    (try dsimp only at hSw)
    go_simp
    try with_reducible rfl
  try simp only [Act.put, List.getElem_toArray, List.getElem_cons_zero, List.getElem_cons_succ, List.setIfInBounds_toArray, List.set_cons_zero, List.set_cons_succ]
  refine wpAnyH_take (i := 2) (oi := _) (v := ?_) rfl (by kernel_rfl) (by kernel_rfl) (by kernel_rfl) (fun _ _ _ h => h) (Or.inl ⟨by rfl, ?_⟩) (by assumption) ?_
  rotate_left
  · intro w hSw
    (try dsimp only at hSw)
    go_simp
    try with_reducible rfl
  try simp only [Act.put, List.getElem_toArray, List.getElem_cons_zero, List.getElem_cons_succ, List.setIfInBounds_toArray, List.set_cons_zero, List.set_cons_succ]
  refine wpAnyH_take (i := 3) (oi := _) (v := ?_) rfl (by kernel_rfl) (by kernel_rfl) (by kernel_rfl) (fun _ _ _ h => h) (Or.inl ⟨by rfl, ?_⟩) (by assumption) ?_
  rotate_left
  · intro w hSw
    (try dsimp only at hSw)
    go_simp
    try with_reducible rfl
  try simp only [Act.put, List.getElem_toArray, List.getElem_cons_zero, List.getElem_cons_succ, List.setIfInBounds_toArray, List.set_cons_zero, List.set_cons_succ]
  refine wpAnyH_ready (rs := [5]) (by kernel_rfl) (by simp) ?_
  refine AllReadyH.cons (o := _) rfl (fun K hK => ?_) AllReadyH.nil
  go_simp
  refine Calls.mono (same_any _ _ _ _ _ (T0.out.up (belT BL (by iterate 8 try (first | assumption | exact belR _ | apply belDr | apply belAlloc)))) (HW28.out.up (by iterate 8 try (first | assumption | exact belR _ | apply belDr | apply belAlloc)))) ?_
  rw [decide_eq_true rfl]
  rintro e z1 ⟨rfl, dz1⟩
  have bz1 : Below wL.heap.size wL z1 := belT (by iterate 8 try (first | assumption | exact belR _ | apply belDr | apply belAlloc)) (dz1.below _)
  try go_simp
  refine hK.out _ _ (show World.cell? _ _ = _ ∧ World.cell? _ _ = _ ∧ World.cell? _ _ = _ ∧ World.cell? _ _ = _ from HR.out _ (belT BL bz1)) (fun hHeld => ?_)
  clear hK K
  try simp only [Act.put, List.getElem_toArray, List.getElem_cons_zero, List.getElem_cons_succ, List.setIfInBounds_toArray, List.set_cons_zero, List.set_cons_succ]
  refine wpAnyH_take (i := 6) (oi := _) (v := ?_) rfl (by kernel_rfl) (by kernel_rfl) (by kernel_rfl) (fun _ _ _ h => h) (Or.inl ⟨by rfl, ?_⟩) (by assumption) ?_
  rotate_left
  · intro w hSw
    (try dsimp only at hSw)
    go_simp
    try with_reducible rfl
  try simp only [Act.put, List.getElem_toArray, List.getElem_cons_zero, List.getElem_cons_succ, List.setIfInBounds_toArray, List.set_cons_zero, List.set_cons_succ]
  refine wpAnyH_take (i := 7) (oi := _) (v := ?_) rfl (by kernel_rfl) (by kernel_rfl) (by kernel_rfl) (fun _ _ _ h => h) (Or.inl ⟨by rfl, ?_⟩) (by assumption) ?_
  rotate_left
  · intro w hSw
    (try dsimp only at hSw)
    go_simp
    try with_reducible rfl
  try simp only [Act.put, List.getElem_toArray, List.getElem_cons_zero, List.getElem_cons_succ, List.setIfInBounds_toArray, List.set_cons_zero, List.set_cons_succ]
  refine wpAnyH_take (i := 8) (oi := _) (v := ?_) rfl (by kernel_rfl) (by kernel_rfl) (by kernel_rfl) (fun _ _ _ h => h) (Or.inl ⟨by rfl, ?_⟩) (by assumption) ?_
  rotate_left
  · intro w hSw
    (try dsimp only at hSw)
    go_simp
    try with_reducible rfl
  try simp only [Act.put, List.getElem_toArray, List.getElem_cons_zero, List.getElem_cons_succ, List.setIfInBounds_toArray, List.set_cons_zero, List.set_cons_succ]
  refine wpAnyH_take (i := 11) (oi := _) (v := ?_) rfl (by kernel_rfl) (by kernel_rfl) (by kernel_rfl) (fun _ _ _ h => h) (Or.inl ⟨by rfl, ?_⟩) (by assumption) ?_
  rotate_left
  · intro w hSw
    (try dsimp only at hSw)
    go_simp
    try with_reducible rfl
  try simp only [Act.put, List.getElem_toArray, List.getElem_cons_zero, List.getElem_cons_succ, List.setIfInBounds_toArray, List.set_cons_zero, List.set_cons_succ]
  refine wpAnyH_take (i := 9) (oi := _) (v := ?_) rfl (by kernel_rfl) (by kernel_rfl) (by kernel_rfl) (fun _ _ _ h => h) (Or.inl ⟨by rfl, ?_⟩) (by assumption) ?_
  rotate_left
  · intro w hSw
    (try dsimp only at hSw)
    go_simp
    try with_reducible rfl
  try simp only [Act.put, List.getElem_toArray, List.getElem_cons_zero, List.getElem_cons_succ, List.setIfInBounds_toArray, List.set_cons_zero, List.set_cons_succ]
  refine wpAnyH_take (i := 10) (oi := _) (v := ?_) rfl (by kernel_rfl) (by kernel_rfl) (by kernel_rfl) (fun _ _ _ h => h) (Or.inl ⟨by rfl, ?_⟩) (by assumption) ?_
  rotate_left
  · intro w hSw
    (try dsimp only at hSw)
    go_simp
    try with_reducible rfl
  try simp only [Act.put, List.getElem_toArray, List.getElem_cons_zero, List.getElem_cons_succ, List.setIfInBounds_toArray, List.set_cons_zero, List.set_cons_succ]
  refine wpAnyH_ready (rs := [12]) (by kernel_rfl) (by simp) ?_
  refine AllReadyH.cons (o := _) rfl (fun K hK => ?_) AllReadyH.nil
  rw [if_pos (by rfl)]
  go_simp
  refine Calls.mono (same_any _ _ _ _ _ (Y1.out.up (belT BL (by iterate 8 try (first | assumption | exact belR _ | apply belDr | apply belAlloc)))) (X3.out.up (belT BL (by iterate 8 try (first | assumption | exact belR _ | apply belDr | apply belAlloc))))) ?_
  rw [decide_eq_true rfl]
  rintro e z2 ⟨rfl, dz2⟩
  have bz2 : Below wL.heap.size wL z2 := belT (by iterate 8 try (first | assumption | exact belR _ | apply belDr | apply belAlloc)) (dz2.below _)
  try go_simp
  refine hK.out _ _ (show World.cell? _ _ = _ ∧ World.cell? _ _ = _ ∧ World.cell? _ _ = _ ∧ World.cell? _ _ = _ from HR.out _ (belT BL bz2)) (fun hHeld => ?_)
  clear hK K
  try simp only [Act.put, List.getElem_toArray, List.getElem_cons_zero, List.getElem_cons_succ, List.setIfInBounds_toArray, List.set_cons_zero, List.set_cons_succ]
  refine wpAnyH_take (i := 13) (oi := _) (v := ?_) rfl (by kernel_rfl) (by kernel_rfl) (by kernel_rfl) (fun _ _ _ h => h) (Or.inl ⟨by rfl, ?_⟩) (by assumption) ?_
  rotate_left
  · intro w hSw
    (try dsimp only at hSw)
    go_simp
    try with_reducible rfl
  try simp only [Act.put, List.getElem_toArray, List.getElem_cons_zero, List.getElem_cons_succ, List.setIfInBounds_toArray, List.set_cons_zero, List.set_cons_succ]
  refine wpAnyH_take (i := 14) (oi := _) (v := ?_) rfl (by kernel_rfl) (by kernel_rfl) (by kernel_rfl) (fun _ _ _ h => h) (Or.inl ⟨by rfl, ?_⟩) (by assumption) ?_
  rotate_left
  · intro w hSw
    (try dsimp only at hSw)
    go_simp
    try with_reducible rfl
  try simp only [Act.put, List.getElem_toArray, List.getElem_cons_zero, List.getElem_cons_succ, List.setIfInBounds_toArray, List.set_cons_zero, List.set_cons_succ]
  refine wpAnyH_take (i := 15) (oi := _) (v := ?_) rfl (by kernel_rfl) (by kernel_rfl) (by kernel_rfl) (fun _ _ _ h => h) (Or.inl ⟨by rfl, ?_⟩) (by assumption) ?_
  rotate_left
  · intro w hSw
    (try dsimp only at hSw)
    go_simp
    try with_reducible rfl
  try simp only [Act.put, List.getElem_toArray, List.getElem_cons_zero, List.getElem_cons_succ, List.setIfInBounds_toArray, List.set_cons_zero, List.set_cons_succ]
  refine wpAnyH_take (i := 16) (oi := _) (v := ?_) rfl (by kernel_rfl) (by kernel_rfl) (by kernel_rfl) (fun _ _ _ h => h) (Or.inl ⟨by rfl, ?_⟩) (by assumption) ?_
  rotate_left
  · intro w hSw
    (try dsimp only at hSw)
    go_simp
    try with_reducible rfl
  try simp only [Act.put, List.getElem_toArray, List.getElem_cons_zero, List.getElem_cons_succ, List.setIfInBounds_toArray, List.set_cons_zero, List.set_cons_succ]
  refine wpAnyH_take (i := 19) (oi := _) (v := ?_) rfl (by kernel_rfl) (by kernel_rfl) (by kernel_rfl) (fun _ _ _ h => h) (Or.inl ⟨by rfl, ?_⟩) (by assumption) ?_
  rotate_left
  · intro w hSw
    (try dsimp only at hSw)
    go_simp
    try with_reducible rfl
  try simp only [Act.put, List.getElem_toArray, List.getElem_cons_zero, List.getElem_cons_succ, List.setIfInBounds_toArray, List.set_cons_zero, List.set_cons_succ]
  refine wpAnyH_take (i := 17) (oi := _) (v := ?_) rfl (by kernel_rfl) (by kernel_rfl) (by kernel_rfl) (fun _ _ _ h => h) (Or.inl ⟨by rfl, ?_⟩) (by assumption) ?_
  rotate_left
  · intro w hSw
    (try dsimp only at hSw)
    go_simp
    try with_reducible rfl
  try simp only [Act.put, List.getElem_toArray, List.getElem_cons_zero, List.getElem_cons_succ, List.setIfInBounds_toArray, List.set_cons_zero, List.set_cons_succ]
  refine wpAnyH_take (i := 18) (oi := _) (v := ?_) rfl (by kernel_rfl) (by kernel_rfl) (by kernel_rfl) (fun _ _ _ h => h) (Or.inl ⟨by rfl, ?_⟩) (by assumption) ?_
  rotate_left
  · intro w hSw
    (try dsimp only at hSw)
    go_simp
    try with_reducible rfl
  try simp only [Act.put, List.getElem_toArray, List.getElem_cons_zero, List.getElem_cons_succ, List.setIfInBounds_toArray, List.set_cons_zero, List.set_cons_succ]
  refine wpAnyH_ready (rs := [20]) (by kernel_rfl) (by simp) ?_
  refine AllReadyH.cons (o := _) rfl (fun K hK => ?_) AllReadyH.nil
  rw [if_pos (by rfl)]
  go_simp
  refine Calls.mono (same_any _ _ _ _ _ (Y2.out.up (belT BL (by iterate 8 try (first | assumption | exact belR _ | apply belDr | apply belAlloc)))) (Y3.out.up (belT BL (by iterate 8 try (first | assumption | exact belR _ | apply belDr | apply belAlloc))))) ?_
  rw [decide_eq_true rfl]
  rintro e z3 ⟨rfl, dz3⟩
  have bz3 : Below wL.heap.size wL z3 := belT (by iterate 8 try (first | assumption | exact belR _ | apply belDr | apply belAlloc)) (dz3.below _)
  try go_simp
  refine hK.out _ _ (show World.cell? _ _ = _ ∧ World.cell? _ _ = _ ∧ World.cell? _ _ = _ ∧ World.cell? _ _ = _ from HR.out _ (belT BL bz3)) (fun hHeld => ?_)
  clear hK K
  try simp only [Act.put, List.getElem_toArray, List.getElem_cons_zero, List.getElem_cons_succ, List.setIfInBounds_toArray, List.set_cons_zero, List.set_cons_succ]
  refine wpAnyH_take (i := 21) (oi := _) (v := ?_) rfl (by kernel_rfl) (by kernel_rfl) (by kernel_rfl) (fun _ _ _ h => h) (Or.inl ⟨by rfl, ?_⟩) (by assumption) ?_
  rotate_left
  · intro w hSw
    (try dsimp only at hSw)
    go_simp
    try with_reducible rfl
  try simp only [Act.put, List.getElem_toArray, List.getElem_cons_zero, List.getElem_cons_succ, List.setIfInBounds_toArray, List.set_cons_zero, List.set_cons_succ]
  refine wpAnyH_take (i := 22) (oi := _) (v := ?_) rfl (by kernel_rfl) (by kernel_rfl) (by kernel_rfl) (fun _ _ _ h => h) (Or.inl ⟨by rfl, ?_⟩) (by assumption) ?_
  rotate_left
  · intro w hSw
    (try dsimp only at hSw)
    go_simp
    try with_reducible rfl
  try simp only [Act.put, List.getElem_toArray, List.getElem_cons_zero, List.getElem_cons_succ, List.setIfInBounds_toArray, List.set_cons_zero, List.set_cons_succ]
  refine wpAnyH_take (i := 23) (oi := _) (v := ?_) rfl (by kernel_rfl) (by kernel_rfl) (by kernel_rfl) (fun _ _ _ h => h) (Or.inl ⟨by rfl, ?_⟩) (by assumption) ?_
  rotate_left
  · intro w hSw
    (try dsimp only at hSw)
    go_simp
    try with_reducible rfl
  try simp only [Act.put, List.getElem_toArray, List.getElem_cons_zero, List.getElem_cons_succ, List.setIfInBounds_toArray, List.set_cons_zero, List.set_cons_succ]
  refine wpAnyH_take (i := 24) (oi := _) (v := ?_) rfl (by kernel_rfl) (by kernel_rfl) (by kernel_rfl) (fun _ _ _ h => h) (Or.inl ⟨by rfl, ?_⟩) (by assumption) ?_
  rotate_left
  · intro w hSw
    (try dsimp only at hSw)
    go_simp
    try with_reducible rfl
  try simp only [Act.put, List.getElem_toArray, List.getElem_cons_zero, List.getElem_cons_succ, List.setIfInBounds_toArray, List.set_cons_zero, List.set_cons_succ]
  refine wpAnyH_take (i := 25) (oi := _) (v := ?_) rfl (by kernel_rfl) (by kernel_rfl) (by kernel_rfl) (fun _ _ _ h => h) (Or.inl ⟨by rfl, ?_⟩) (by assumption) ?_
  rotate_left
  · intro w hSw
    (try dsimp only at hSw)
    go_simp
    try with_reducible rfl
  try simp only [Act.put, List.getElem_toArray, List.getElem_cons_zero, List.getElem_cons_succ, List.setIfInBounds_toArray, List.set_cons_zero, List.set_cons_succ]
  refine wpAnyH_take (i := 26) (oi := _) (v := ?_) rfl (by kernel_rfl) (by kernel_rfl) (by kernel_rfl) (fun _ _ _ h => h) (Or.inl ⟨by rfl, ?_⟩) (by assumption) ?_
  rotate_left
  · intro w hSw
    (try dsimp only at hSw)
    go_simp
    try with_reducible rfl
  try simp only [Act.put, List.getElem_toArray, List.getElem_cons_zero, List.getElem_cons_succ, List.setIfInBounds_toArray, List.set_cons_zero, List.set_cons_succ]
  refine wpAnyH_ready (rs := [27]) (by kernel_rfl) (by simp) ?_
  refine AllReadyH.cons (o := _) rfl (fun K hK => ?_) AllReadyH.nil
  rw [if_pos (by rfl)]
  refine wp_make_bytes _ _ 37 rfl j0 Try.underlying37 hj hy0 hy1 hy2 .i64 .i64 32 rfl rfl (by decide) ?_
  intro zm OM bm
  have bzm : Below wL.heap.size wL zm := belT (by iterate 8 try (first | assumption | exact belR _ | apply belDr | apply belAlloc)) bm
  refine hK.out _ _ (show World.cell? _ _ = _ ∧ World.cell? _ _ = _ ∧ World.cell? _ _ = _ ∧ World.cell? _ _ = _ from HR.out _ (belT BL bzm)) (fun hHeld => ?_)
  clear hK K
  try simp only [Act.put, List.getElem_toArray, List.getElem_cons_zero, List.getElem_cons_succ, List.setIfInBounds_toArray, List.set_cons_zero, List.set_cons_succ]
  refine wpAnyH_ready (rs := [28]) (by kernel_rfl) (by simp) ?_
  refine AllReadyH.cons (o := _) rfl (fun K hK => ?_) AllReadyH.nil
  rw [if_pos (by rfl)]
  go_simp
  refine Calls.mono (same_any _ _ _ _ _ (Y3'.out.up (belT BL (by iterate 8 try (first | assumption | exact belR _ | apply belDr | apply belAlloc)))) (show Byt _ _ zero32 from OM.byt)) ?_
  rw [decide_eq_true rfl]
  rintro e z4 ⟨rfl, dz4⟩
  have bz4 : Below wL.heap.size wL z4 := belT (by iterate 8 try (first | assumption | exact belR _ | apply belDr | apply belAlloc)) (dz4.below _)
  try go_simp
  refine hK.out _ _ (show World.cell? _ _ = _ ∧ World.cell? _ _ = _ ∧ World.cell? _ _ = _ ∧ World.cell? _ _ = _ from HR.out _ (belT BL bz4)) (fun hHeld => ?_)
  clear hK K
  try simp only [Act.put, List.getElem_toArray, List.getElem_cons_zero, List.getElem_cons_succ, List.setIfInBounds_toArray, List.set_cons_zero, List.set_cons_succ]
  refine wpAnyH_take (i := 29) (oi := _) (v := ?_) rfl (by kernel_rfl) (by kernel_rfl) (by kernel_rfl) (fun _ _ _ h => h) (Or.inl ⟨by rfl, ?_⟩) (by assumption) ?_
  rotate_left
  · intro w hSw
    (try dsimp only at hSw)
    go_simp
    try with_reducible rfl
  try simp only [Act.put, List.getElem_toArray, List.getElem_cons_zero, List.getElem_cons_succ, List.setIfInBounds_toArray, List.set_cons_zero, List.set_cons_succ]
  refine wpAnyH_take (i := 30) (oi := _) (v := ?_) rfl (by kernel_rfl) (by kernel_rfl) (by kernel_rfl) (fun _ _ _ h => h) (Or.inl ⟨by rfl, ?_⟩) (by assumption) ?_
  rotate_left
  · intro w hSw
    (try dsimp only at hSw)
    go_simp
    try with_reducible rfl
  try simp only [Act.put, List.getElem_toArray, List.getElem_cons_zero, List.getElem_cons_succ, List.setIfInBounds_toArray, List.set_cons_zero, List.set_cons_succ]
  refine wpAnyH_done (by kernel_rfl) ?_ _
  go_wp2_with fail
  refine Calls.mono (within_ex n 1000 _ (by decide) (by decide) ⟨hn1, hn2⟩) ?_
  rintro e wa ⟨k8, rfl, hk8, rfl⟩
  have BZ : Below w3.heap.size w3 z4 := belT BL bz4
  have XZ := Lib.hid (X3.out.up BZ)
  clear T0 X3 Y3 HW28 bz1 bz2 bz3 bzm bm OM
  have hkb : (k8 : Int) < 1000 := hk8
  have XB : ∀ Z, Below z4.heap.size z4 Z → Byt Z (.slice (some ⟨g1, 0, none⟩) 32 k1) (secL n) := fun Z hZ => XZ.out.up hZ
  have HXB := Lib.hid XB
  clear XB
  go_wp2_with fail
  obtain ⟨y1, hy1'⟩ : ∃ y1, y1 = z4.alloc (.cells #[.int .i64 1, .int .i64 36, .slice (some ⟨g1, 0, none⟩) 32 k1] 42) := ⟨_, rfl⟩
  rw [← hy1']
  obtain ⟨y2, hy2'⟩ : ∃ y2, y2 = y1.alloc (.cells #[.int .i64 1, .int .i64 36, .slice (some ⟨g1, 0, none⟩) 32 k1, .int .i64 1, .int .i64 36, .slice (some ⟨g1, 0, none⟩) 32 k1] 42) := ⟨_, rfl⟩
  rw [← hy2']
  obtain ⟨y3, hy3'⟩ : ∃ y3, y3 = y2.alloc (.cells #[.int .i64 (7 + (1 + (k8 : Int))), .int .i64 36, .slice (some ⟨g1, 0, none⟩) 32 k1] 42) := ⟨_, rfl⟩
  rw [← hy3']
  obtain ⟨y4, hy4'⟩ : ∃ y4, y4 = y3.alloc (.cells #[.int .i64 (-(1 + (k8 : Int))), .int .i64 36, .slice (some ⟨g1, 0, none⟩) 32 k1] 42) := ⟨_, rfl⟩
  rw [← hy4']
  obtain ⟨y5, hy5'⟩ : ∃ y5, y5 = y4.alloc (.cells #[.int .i64 0, .int .i64 (36 - (1 + (k8 : Int))), .slice (some ⟨g1, 0, none⟩) 32 k1] 42) := ⟨_, rfl⟩
  rw [← hy5']
  obtain ⟨y6, hy6'⟩ : ∃ y6, y6 = y5.alloc (.cells #[.int .i64 0, .int .i64 (51 + (1 + (k8 : Int))), .slice (some ⟨g1, 0, none⟩) 32 k1] 42) := ⟨_, rfl⟩
  rw [← hy6']
  obtain ⟨y7, hy7'⟩ : ∃ y7, y7 = y6.alloc (.cells #[.int .i64 0, .int .i64 36, .slice none 0 0] 42) := ⟨_, rfl⟩
  rw [← hy7']
  obtain ⟨y8, hy8'⟩ : ∃ y8, y8 = y7.alloc (.cells #[.int .i64 0, .int .i64 36, .slice (some ⟨g1, 0, none⟩) 32 k1, .int .i64 0, .int .i64 37, .slice (some ⟨g1, 0, none⟩) 32 k1, .int .i64 0, .int .i64 38, .slice (some ⟨g1, 0, none⟩) 32 k1, .int .i64 0, .int .i64 39, .slice (some ⟨g1, 0, none⟩) 32 k1] 42) := ⟨_, rfl⟩
  rw [← hy8']
  obtain ⟨gF, hgF⟩ : ∃ gF, gF = y8.heap.size := ⟨_, rfl⟩
  have c1 : y1.heap.size = z4.heap.size + 1 := by rw [hy1']; simp
  have c2 : y2.heap.size = z4.heap.size + 1 + 1 := by rw [hy2', World.size_alloc, c1]
  have c3' : y3.heap.size = z4.heap.size + 1 + 1 + 1 := by rw [hy3', World.size_alloc, c2]
  have c4 : y4.heap.size = z4.heap.size + 1 + 1 + 1 + 1 := by rw [hy4', World.size_alloc, c3']
  have c5 : y5.heap.size = z4.heap.size + 1 + 1 + 1 + 1 + 1 := by rw [hy5', World.size_alloc, c4]
  have c6 : y6.heap.size = z4.heap.size + 1 + 1 + 1 + 1 + 1 + 1 := by rw [hy6', World.size_alloc, c5]
  have c7 : y7.heap.size = z4.heap.size + 1 + 1 + 1 + 1 + 1 + 1 + 1 := by rw [hy7', World.size_alloc, c6]
  have c8 : y8.heap.size = z4.heap.size + 1 + 1 + 1 + 1 + 1 + 1 + 1 + 1 := by rw [hy8', World.size_alloc, c7]
  have d1 : Below z4.heap.size z4 y1 := by rw [hy1']; exact belA1 (belR _)
  have d2 : Below y1.heap.size y1 y2 := by rw [hy2']; exact belA1 (belR _)
  have d3 : Below y2.heap.size y2 y3 := by rw [hy3']; exact belA1 (belR _)
  have d4 : Below y3.heap.size y3 y4 := by rw [hy4']; exact belA1 (belR _)
  have d5 : Below y4.heap.size y4 y5 := by rw [hy5']; exact belA1 (belR _)
  have d6 : Below y5.heap.size y5 y6 := by rw [hy6']; exact belA1 (belR _)
  have d7 : Below y6.heap.size y6 y7 := by rw [hy7']; exact belA1 (belR _)
  have d8 : Below y7.heap.size y7 y8 := by rw [hy8']; exact belA1 (belR _)
  have i2 : Items y2 (.slice (some ⟨z4.heap.size + 1, 0, none⟩) 2 2) [⟨1, 36, secL n⟩, ⟨1, 36, secL n⟩] := by
    rw [hy2']; exact Items.lit y1 _ _ [((⟨1, 36, secL n⟩ : RI), Value.slice (some ⟨g1, 0, none⟩) 32 k1), ((⟨1, 36, secL n⟩ : RI), Value.slice (some ⟨g1, 0, none⟩) 32 k1)] rfl c1.symm rfl (fun p hp => by simp only [List.mem_cons, List.not_mem_nil, or_false, or_self] at hp; subst hp; exact ⟨HXB.out _ d1, ⟨by dsimp only; decide, by dsimp only; decide⟩, ⟨by dsimp only; decide, by dsimp only; decide⟩⟩) (by show 2 ≤ 1000; decide)
  have i3 : Items y3 (.slice (some ⟨z4.heap.size + 1 + 1, 0, none⟩) 1 1) [⟨7 + (1 + (k8 : Int)), 36, secL n⟩] := by
    rw [hy3']; exact Items.lit y2 _ _ [((⟨7 + (1 + (k8 : Int)), 36, secL n⟩ : RI), Value.slice (some ⟨g1, 0, none⟩) 32 k1)] rfl c2.symm rfl (fun p hp => by rw [List.mem_singleton.1 hp]; exact ⟨HXB.out _ (belT d1 d2), ⟨by dsimp only; omega, by dsimp only; omega⟩, ⟨by dsimp only; decide, by dsimp only; decide⟩⟩) (by show 1 ≤ 1000; decide)
  have i4 : Items y4 (.slice (some ⟨z4.heap.size + 1 + 1 + 1, 0, none⟩) 1 1) [⟨-(1 + (k8 : Int)), 36, secL n⟩] := by
    rw [hy4']; exact Items.lit y3 _ _ [((⟨-(1 + (k8 : Int)), 36, secL n⟩ : RI), Value.slice (some ⟨g1, 0, none⟩) 32 k1)] rfl c3'.symm rfl (fun p hp => by rw [List.mem_singleton.1 hp]; exact ⟨HXB.out _ (belT d1 (belT d2 d3)), ⟨by dsimp only; omega, by dsimp only; omega⟩, ⟨by dsimp only; decide, by dsimp only; decide⟩⟩) (by show 1 ≤ 1000; decide)
  have i5 : Items y5 (.slice (some ⟨z4.heap.size + 1 + 1 + 1 + 1, 0, none⟩) 1 1) [⟨0, 36 - (1 + (k8 : Int)), secL n⟩] := by
    rw [hy5']; exact Items.lit y4 _ _ [((⟨0, 36 - (1 + (k8 : Int)), secL n⟩ : RI), Value.slice (some ⟨g1, 0, none⟩) 32 k1)] rfl c4.symm rfl (fun p hp => by rw [List.mem_singleton.1 hp]; exact ⟨HXB.out _ (belT d1 (belT d2 (belT d3 d4))), ⟨by dsimp only; decide, by dsimp only; decide⟩, ⟨by dsimp only; omega, by dsimp only; omega⟩⟩) (by show 1 ≤ 1000; decide)
  have i6 : Items y6 (.slice (some ⟨z4.heap.size + 1 + 1 + 1 + 1 + 1, 0, none⟩) 1 1) [⟨0, 51 + (1 + (k8 : Int)), secL n⟩] := by
    rw [hy6']; exact Items.lit y5 _ _ [((⟨0, 51 + (1 + (k8 : Int)), secL n⟩ : RI), Value.slice (some ⟨g1, 0, none⟩) 32 k1)] rfl c5.symm rfl (fun p hp => by rw [List.mem_singleton.1 hp]; exact ⟨HXB.out _ (belT d1 (belT d2 (belT d3 (belT d4 d5)))), ⟨by dsimp only; decide, by dsimp only; decide⟩, ⟨by dsimp only; omega, by dsimp only; omega⟩⟩) (by show 1 ≤ 1000; decide)
  have i7 : Items y7 (.slice (some ⟨z4.heap.size + 1 + 1 + 1 + 1 + 1 + 1, 0, none⟩) 1 1) [⟨0, 36, []⟩] := by
    rw [hy7']; exact Items.lit y6 _ _ [((⟨0, 36, []⟩ : RI), Value.slice none 0 0)] rfl c6.symm rfl (fun p hp => by rw [List.mem_singleton.1 hp]; exact ⟨Byt.nil _, ⟨by dsimp only; decide, by dsimp only; decide⟩, ⟨by dsimp only; decide, by dsimp only; decide⟩⟩) (by show 1 ≤ 1000; decide)
  have i8 : Items y8 (.slice (some ⟨z4.heap.size + 1 + 1 + 1 + 1 + 1 + 1 + 1, 0, none⟩) 4 4) [⟨0, 36, secL n⟩, ⟨0, 37, secL n⟩, ⟨0, 38, secL n⟩, ⟨0, 39, secL n⟩] := by
    rw [hy8']; exact Items.lit y7 _ _ [((⟨0, 36, secL n⟩ : RI), Value.slice (some ⟨g1, 0, none⟩) 32 k1), ((⟨0, 37, secL n⟩ : RI), Value.slice (some ⟨g1, 0, none⟩) 32 k1), ((⟨0, 38, secL n⟩ : RI), Value.slice (some ⟨g1, 0, none⟩) 32 k1), ((⟨0, 39, secL n⟩ : RI), Value.slice (some ⟨g1, 0, none⟩) 32 k1)] rfl c7.symm rfl (fun p hp => by
      have hb := HXB.out _ (belT d1 (belT d2 (belT d3 (belT d4 (belT d5 (belT d6 d7))))))
      simp only [List.mem_cons, List.not_mem_nil, or_false] at hp
      rcases hp with rfl | rfl | rfl | rfl <;> exact ⟨hb, ⟨by dsimp only; decide, by dsimp only; decide⟩, ⟨by dsimp only; decide, by dsimp only; decide⟩⟩) (by show 4 ≤ 1000; decide)
  obtain ⟨wF, hwF⟩ : ∃ wF, wF = y8.alloc (.cells #[.int .i64 0, .slice none 0 0, .int .i64 (-(1 + (k8 : Int))), .slice none 0 0, .int .i64 (2147483647 + (1 + (k8 : Int))), .slice none 0 0, .int .i64 1, .slice (some ⟨z4.heap.size + 1, 0, none⟩) 2 2, .int .i64 1, .slice (some ⟨z4.heap.size + 1 + 1, 0, none⟩) 1 1, .int .i64 1, .slice (some ⟨z4.heap.size + 1 + 1 + 1, 0, none⟩) 1 1, .int .i64 1, .slice (some ⟨z4.heap.size + 1 + 1 + 1 + 1, 0, none⟩) 1 1, .int .i64 1, .slice (some ⟨z4.heap.size + 1 + 1 + 1 + 1 + 1, 0, none⟩) 1 1, .int .i64 1, .slice (some ⟨z4.heap.size + 1 + 1 + 1 + 1 + 1 + 1, 0, none⟩) 1 1, .int .i64 1, .slice (some ⟨z4.heap.size + 1 + 1 + 1 + 1 + 1 + 1 + 1, 0, none⟩) 4 4] 25) := ⟨_, rfl⟩
  rw [← hwF]
  have d9 : Below y8.heap.size y8 wF := by rw [hwF]; exact belA1 (belR _)
  have HT : Hid (∀ j, j < 10 → BadR wF gF j) := by
    intro j hj
    have hcell : ∀ o x, (#[Value.int .i64 0, .slice none 0 0, .int .i64 (-(1 + (k8 : Int))), .slice none 0 0, .int .i64 (2147483647 + (1 + (k8 : Int))), .slice none 0 0, .int .i64 1, .slice (some ⟨z4.heap.size + 1, 0, none⟩) 2 2, .int .i64 1, .slice (some ⟨z4.heap.size + 1 + 1, 0, none⟩) 1 1, .int .i64 1, .slice (some ⟨z4.heap.size + 1 + 1 + 1, 0, none⟩) 1 1, .int .i64 1, .slice (some ⟨z4.heap.size + 1 + 1 + 1 + 1, 0, none⟩) 1 1, .int .i64 1, .slice (some ⟨z4.heap.size + 1 + 1 + 1 + 1 + 1, 0, none⟩) 1 1, .int .i64 1, .slice (some ⟨z4.heap.size + 1 + 1 + 1 + 1 + 1 + 1, 0, none⟩) 1 1, .int .i64 1, .slice (some ⟨z4.heap.size + 1 + 1 + 1 + 1 + 1 + 1 + 1, 0, none⟩) 4 4] : Array Value)[o]? = some x → wF.cell? ⟨gF, o, none⟩ = some x := fun o x hx => by
      rw [hwF, hgF, cell_of_row _ y8.heap.size o _ _ _ (heap_alloc_new y8 _)]; exact hx
    have hj' : j = 0 ∨ j = 1 ∨ j = 2 ∨ j = 3 ∨ j = 4 ∨ j = 5 ∨ j = 6 ∨ j = 7 ∨ j = 8 ∨ j = 9 := by omega
    rcases hj' with rfl | rfl | rfl | rfl | rfl | rfl | rfl | rfl | rfl | rfl
    · exact ⟨_, _, [], hcell 0 _ rfl, hcell 1 _ rfl, Items.nil _, ⟨by decide, by decide⟩, rok_seq (by decide)⟩
    · exact ⟨_, _, [], hcell 2 _ rfl, hcell 3 _ rfl, Items.nil _, ⟨by omega, by omega⟩, rok_seq (by omega)⟩
    · exact ⟨_, _, [], hcell 4 _ rfl, hcell 5 _ rfl, Items.nil _, ⟨by omega, by omega⟩, rok_seq (by omega)⟩
    · exact ⟨_, _, _, hcell 6 _ rfl, hcell 7 _ rfl, i2.up (belT d3 (belT d4 (belT d5 (belT d6 (belT d7 (belT d8 d9)))))), ⟨by decide, by decide⟩, rok_twice _ _⟩
    · exact ⟨_, _, _, hcell 8 _ rfl, hcell 9 _ rfl, i3.up (belT d4 (belT d5 (belT d6 (belT d7 (belT d8 d9))))), ⟨by decide, by decide⟩, rok_bad _ (List.mem_singleton.2 rfl) (fine_no (by dsimp only; omega))⟩
    · exact ⟨_, _, _, hcell 10 _ rfl, hcell 11 _ rfl, i4.up (belT d5 (belT d6 (belT d7 (belT d8 d9)))), ⟨by decide, by decide⟩, rok_bad _ (List.mem_singleton.2 rfl) (fine_no (by dsimp only; omega))⟩
    · exact ⟨_, _, _, hcell 12 _ rfl, hcell 13 _ rfl, i5.up (belT d6 (belT d7 (belT d8 d9))), ⟨by decide, by decide⟩, rok_bad _ (List.mem_singleton.2 rfl) (fine_no (by dsimp only; omega))⟩
    · exact ⟨_, _, _, hcell 14 _ rfl, hcell 15 _ rfl, i6.up (belT d7 (belT d8 d9)), ⟨by decide, by decide⟩, rok_bad _ (List.mem_singleton.2 rfl) (fine_no (by dsimp only; omega))⟩
    · exact ⟨_, _, _, hcell 16 _ rfl, hcell 17 _ rfl, i7.up (belT d8 d9), ⟨by decide, by decide⟩, rok_bad _ (List.mem_singleton.2 rfl) (fine_no (by decide))⟩
    · exact ⟨_, _, _, hcell 18 _ rfl, hcell 19 _ rfl, i8.up d9, ⟨by decide, by decide⟩, rok_len (by show ¬ 4 ≤ 3; decide)⟩
  have BF : Below w3.heap.size w3 wF := belT BZ (belT d1 (belT d2 (belT d3 (belT d4 (belT d5 (belT d6 (belT d7 (belT d8 d9))))))))
  have HGF : Hid (z4.heap.size + 1 + 1 + 1 + 1 + 1 + 1 + 1 + 1 = gF) := by show _ = _; rw [hgF, c8]
  have HGF2 : Hid (y8.heap.size = gF) := hgF.symm
  clear hwF hgF c1 c2 c3' c4 c5 c6 c7 c8 d1 d2 d3 d4 d5 d6 d7 d8 d9 i2 i3 i4 i5 i6 i7 i8 hy1' hy2' hy3' hy4' hy5' hy6' hy7' hy8'
  try rw [HGF.out]
  try rw [HGF2.out]
  go_loopw [135] (fun i Z => ∃ j : Nat, j ≤ 10 ∧ i = .int .i64 j ∧ Below wF.heap.size wF Z) (fun i _ => 10 - (intOf i).toNat)
  case atStart => exact ⟨0, by omega, rfl, belR _⟩
  case round =>
    obtain ⟨j, hj10, rfl, B⟩ := hrel
    by_cases hlt : j < 10
    · obtain ⟨s, v, l, ha, hb, HI, hs, hno⟩ := HT.out j hlt
      have ha := cell_fr ha (Fr.of_below (S := fun _ => False) B) id
      have hb := cell_fr hb (Fr.of_below (S := fun _ => False) B) id
      obtain ⟨av, cv, ev, _⟩ := HI.shape
      obtain ⟨m, hm⟩ : ∃ m, m = l.length := ⟨_, rfl⟩
      rw [← hm] at ev
      subst ev
      have HIU := Lib.hid (HI.up B)
      have HNO := Lib.hid hno
      have hji : (j : Int) < 10 := by omega
      have hji0 : (0 : Int) ≤ (j : Int) := by omega
      have HCK : Hid (∀ Z, Below wr.heap.size wr Z → Calls Try.prog 17 #[.agg #[.int .i64 s, .slice av m cv]] Z fun e w' => e = .returned (.int .i64 1) ∧ Below Z.heap.size Z w') := fun Z hZ => by
        have := rcheck_any s _ l Z hs (HIU.out.up hZ)
        rwa [rerr_no hno] at this
      clear HI hm hno
      go_wp2_with fail
      refine Calls.mono (rencode_no s _ l _ hs (HIU.out.up (belA1 (belR _))) HNO.out) ?_
      rintro e z5 ⟨rfl, bz5⟩
      obtain ⟨x0, x1⟩ := box2 bz5
      go_wp2_with fail
      refine Calls.mono (HCK.out _ (belT (belA1 (belR _)) bz5)) ?_
      rintro e z6 ⟨rfl, bz6⟩
      have B6 := belT B (belT (belA1 (belR _)) (belT bz5 bz6))
      go_wp2
      go_roundw
      case rel => exact ⟨j + 1, by omega, by go_num, B6⟩
      case measure => simp [intOf]; omega
    · have BB := belT BF B
      have hjB : decide ((j : Int) < 10) = false := by rw [decide_eq_false_iff_not]; omega
      have hjP : ((j : Int) < 10) = False := by rw [eq_iff_iff]; exact ⟨fun h => by omega, fun h => h.elim⟩
      clear hlt
      go_wp2_with fail
      refine Calls.mono (decode_any (.slice none 0 0) [] _ (Parts.nil _)) ?_
      rintro e z5 ⟨sD, vD, lD, erD, rfl, HD, _, bz5, hd⟩
      rcases hd with ⟨hn', _⟩ | ⟨_, rfl, rfl, rfl⟩
      · rw [ris_form (ls := []) rfl] at hn'; cases hn'
      obtain ⟨aD, cD, rfl, _⟩ := HD.shape
      have B5 := belT BB bz5
      obtain ⟨zs, hzs⟩ : ∃ zs, zs = z5.alloc (.cells #[.int .i64 0, .slice aD ([] : List RI).length cD] 25) := ⟨_, rfl⟩
      have BS : Below w3.heap.size w3 zs := by rw [hzs]; exact belT B5 (belA1 (belR _))
      have HZS := Lib.hid hzs
      clear hzs HD bz5 B5 BB B
      go_wp2_with fail
      first | rw [← HZS.out] | rw [show z5.alloc (.cells #[.int .i64 0, .slice aD 0 cD] 25) = zs from HZS.out.symm]
      go_cut [15, 16] from 161 (fun a e Z => e = .int .i64 2 ∧ Below w3.heap.size w3 Z)
      case first =>
        refine wp_region_held_drew (S := fun Z => Z.cell? ⟨rb, ro, none⟩ = some (.slice s0 32 t0) ∧ Z.cell? ⟨rb, ro + 1, none⟩ = some (.slice s1 32 t1) ∧ Z.cell? ⟨rb, ro + 2, none⟩ = some (.slice s2 32 t2) ∧ Z.cell? ⟨rb, ro + 3, none⟩ = some (.slice s3 32 t3)) (by kernel_rfl) (show World.cell? _ _ = _ ∧ World.cell? _ _ = _ ∧ World.cell? _ _ = _ ∧ World.cell? _ _ = _ from HR.out _ (belT BS (by iterate 8 try (first | assumption | exact belR _ | apply belDr | apply belAlloc)))) (fun hHeld => ?_)
        refine wpAnyH_take (i := 0) (oi := _) (v := ?_) rfl (by kernel_rfl) (by kernel_rfl) (by kernel_rfl) (fun _ _ _ h => h) (Or.inl ⟨by rfl, ?_⟩) (by assumption) ?_
        rotate_left
        · intro w hSw
          (try dsimp only at hSw)
          go_simp
          try with_reducible rfl
        try simp only [Act.put, List.getElem_toArray, List.getElem_cons_zero, List.getElem_cons_succ, List.setIfInBounds_toArray, List.set_cons_zero, List.set_cons_succ]
        refine wpAnyH_take (i := 3) (oi := _) (v := ?_) rfl (by kernel_rfl) (by kernel_rfl) (by kernel_rfl) (fun _ _ _ h => h) (Or.inl ⟨by rfl, ?_⟩) (by assumption) ?_
        rotate_left
        · intro w hSw
          (try dsimp only at hSw)
          go_simp
          try with_reducible rfl
        try simp only [Act.put, List.getElem_toArray, List.getElem_cons_zero, List.getElem_cons_succ, List.setIfInBounds_toArray, List.set_cons_zero, List.set_cons_succ]
        refine wpAnyH_take (i := 6) (oi := _) (v := ?_) rfl (by kernel_rfl) (by kernel_rfl) (by kernel_rfl) (fun _ _ _ h => h) (Or.inl ⟨by rfl, ?_⟩) (by assumption) ?_
        rotate_left
        · intro w hSw
          (try dsimp only at hSw)
          go_simp
          try with_reducible rfl
        try simp only [Act.put, List.getElem_toArray, List.getElem_cons_zero, List.getElem_cons_succ, List.setIfInBounds_toArray, List.set_cons_zero, List.set_cons_succ]
        refine wpAnyH_take (i := 1) (oi := _) (v := ?_) rfl (by kernel_rfl) (by kernel_rfl) (by kernel_rfl) (fun _ _ _ h => h) (Or.inl ⟨by rfl, ?_⟩) (by assumption) ?_
        rotate_left
        · intro w hSw
          (try dsimp only at hSw)
          go_simp
          try with_reducible rfl
        try simp only [Act.put, List.getElem_toArray, List.getElem_cons_zero, List.getElem_cons_succ, List.setIfInBounds_toArray, List.set_cons_zero, List.set_cons_succ]
        refine wpAnyH_take (i := 4) (oi := _) (v := ?_) rfl (by kernel_rfl) (by kernel_rfl) (by kernel_rfl) (fun _ _ _ h => h) (Or.inl ⟨by rfl, ?_⟩) (by assumption) ?_
        rotate_left
        · intro w hSw
          (try dsimp only at hSw)
          go_simp
          try with_reducible rfl
        try simp only [Act.put, List.getElem_toArray, List.getElem_cons_zero, List.getElem_cons_succ, List.setIfInBounds_toArray, List.set_cons_zero, List.set_cons_succ]
        refine wpAnyH_take (i := 7) (oi := _) (v := ?_) rfl (by kernel_rfl) (by kernel_rfl) (by kernel_rfl) (fun _ _ _ h => h) (Or.inl ⟨by rfl, ?_⟩) (by assumption) ?_
        rotate_left
        · intro w hSw
          (try dsimp only at hSw)
          go_simp
          try with_reducible rfl
        try simp only [Act.put, List.getElem_toArray, List.getElem_cons_zero, List.getElem_cons_succ, List.setIfInBounds_toArray, List.set_cons_zero, List.set_cons_succ]
        refine wpAnyH_take (i := 2) (oi := _) (v := ?_) rfl (by kernel_rfl) (by kernel_rfl) (by kernel_rfl) (fun _ _ _ h => h) (Or.inl ⟨by rfl, ?_⟩) (by assumption) ?_
        rotate_left
        · intro w hSw
          (try dsimp only at hSw)
          go_simp
          try with_reducible rfl
        try simp only [Act.put, List.getElem_toArray, List.getElem_cons_zero, List.getElem_cons_succ, List.setIfInBounds_toArray, List.set_cons_zero, List.set_cons_succ]
        refine wpAnyH_take (i := 5) (oi := _) (v := ?_) rfl (by kernel_rfl) (by kernel_rfl) (by kernel_rfl) (fun _ _ _ h => h) (Or.inl ⟨by rfl, ?_⟩) (by assumption) ?_
        rotate_left
        · intro w hSw
          (try dsimp only at hSw)
          go_simp
          try with_reducible rfl
        try simp only [Act.put, List.getElem_toArray, List.getElem_cons_zero, List.getElem_cons_succ, List.setIfInBounds_toArray, List.set_cons_zero, List.set_cons_succ]
        refine wpAnyH_take (i := 8) (oi := _) (v := ?_) rfl (by kernel_rfl) (by kernel_rfl) (by kernel_rfl) (fun _ _ _ h => h) (Or.inl ⟨by rfl, ?_⟩) (by assumption) ?_
        rotate_left
        · intro w hSw
          (try dsimp only at hSw)
          go_simp
          try with_reducible rfl
        try simp only [Act.put, List.getElem_toArray, List.getElem_cons_zero, List.getElem_cons_succ, List.setIfInBounds_toArray, List.set_cons_zero, List.set_cons_succ]
        refine wpAnyH_ready (rs := [9, 14]) (by kernel_rfl) (by simp) ?_
        refine AllReadyH.cons (o := _) rfl (fun K hK => ?_) (AllReadyH.cons (o := _) rfl (fun K hK => ?_) AllReadyH.nil)
        · go_simp
          refine hK.out _ _ (show World.cell? _ _ = _ ∧ World.cell? _ _ = _ ∧ World.cell? _ _ = _ ∧ World.cell? _ _ = _ from HR.out _ (belT BS (by iterate 8 try (first | assumption | exact belR _ | apply belDr | apply belAlloc)))) (fun hHeld => ?_)
          clear hK K
          try simp only [Act.put, List.getElem_toArray, List.getElem_cons_zero, List.getElem_cons_succ, List.setIfInBounds_toArray, List.set_cons_zero, List.set_cons_succ]
          refine wpAnyH_ready (rs := [10, 14]) (by kernel_rfl) (by simp) ?_
          refine AllReadyH.cons (o := _) rfl (fun K hK => ?_) (AllReadyH.cons (o := _) rfl (fun K hK => ?_) AllReadyH.nil)
          · go_simp
            refine Calls.mono (decode_any _ [p0, secL n, secL (wrap64 (n + 1))] _ (by exact (Parts.lit3 (by first | rfl | simp) (Y0.out.up (belT BS (by iterate 8 try (first | assumption | exact belR _ | apply belDr | apply belAlloc)))) (Y1.out.up (belT BS (by iterate 8 try (first | assumption | exact belR _ | apply belDr | apply belAlloc)))) (Y2.out.up (belT BS (by iterate 8 try (first | assumption | exact belR _ | apply belDr | apply belAlloc))))))) ?_
            rintro e zc ⟨sD, vD, lD, erD, rfl, HD, _, bzc, hd⟩
            have hd' : erD = 2 ∧ sD = 0 ∧ lD = [] := by
              rcases hd with ⟨hn', _⟩ | ⟨_, h⟩
              · rw [ris_three _ _ _] at hn'; cases hn'
              · exact h
            obtain ⟨rfl, rfl, rfl⟩ := hd'
            obtain ⟨aE, cE, rfl, _⟩ := HD.shape
            have BZC : Below zs.heap.size zs zc := belT (by iterate 8 try (first | assumption | exact belR _ | apply belDr | apply belAlloc)) bzc
            try go_simp
            refine hK.out _ _ (show World.cell? _ _ = _ ∧ World.cell? _ _ = _ ∧ World.cell? _ _ = _ ∧ World.cell? _ _ = _ from HR.out _ (belT BS BZC)) (fun hHeld => ?_)
            clear hK K
            try simp only [Act.put, List.getElem_toArray, List.getElem_cons_zero, List.getElem_cons_succ, List.setIfInBounds_toArray, List.set_cons_zero, List.set_cons_succ]
            refine wpAnyH_take (i := 11) (oi := _) (v := ?_) rfl (by kernel_rfl) (by kernel_rfl) (by kernel_rfl) (fun _ _ _ h => h) (Or.inl ⟨by rfl, ?_⟩) (by assumption) ?_
            rotate_left
            · intro w hSw
              (try dsimp only at hSw)
              go_simp
              try with_reducible rfl
            try simp only [Act.put, List.getElem_toArray, List.getElem_cons_zero, List.getElem_cons_succ, List.setIfInBounds_toArray, List.set_cons_zero, List.set_cons_succ]
            refine wpAnyH_take (i := 12) (oi := _) (v := ?_) rfl (by kernel_rfl) (by kernel_rfl) (by kernel_rfl) (fun _ _ _ h => h) (Or.inl ⟨by rfl, ?_⟩) (by assumption) ?_
            rotate_left
            · intro w hSw
              (try dsimp only at hSw)
              go_simp
              try with_reducible rfl
            try simp only [Act.put, List.getElem_toArray, List.getElem_cons_zero, List.getElem_cons_succ, List.setIfInBounds_toArray, List.set_cons_zero, List.set_cons_succ]
            refine wpAnyH_take (i := 13) (oi := _) (v := ?_) rfl (by kernel_rfl) (by kernel_rfl) (by kernel_rfl) (fun _ _ _ h => h) (Or.inl ⟨by rfl, ?_⟩) (by assumption) ?_
            rotate_left
            · intro w hSw
              (try dsimp only at hSw)
              go_simp
              try with_reducible rfl
            try simp only [Act.put, List.getElem_toArray, List.getElem_cons_zero, List.getElem_cons_succ, List.setIfInBounds_toArray, List.set_cons_zero, List.set_cons_succ]
            refine wpAnyH_ready (rs := [14]) (by kernel_rfl) (by simp) ?_
            refine AllReadyH.cons (o := _) rfl (fun K hK => ?_) AllReadyH.nil
            go_simp
            refine hK.out _ _ (show World.cell? _ _ = _ ∧ World.cell? _ _ = _ ∧ World.cell? _ _ = _ ∧ World.cell? _ _ = _ from HR.out _ (belT BS (by iterate 8 try (first | assumption | exact belR _ | apply belDr | apply belAlloc)))) (fun hHeld => ?_)
            clear hK K
            try simp only [Act.put, List.getElem_toArray, List.getElem_cons_zero, List.getElem_cons_succ, List.setIfInBounds_toArray, List.set_cons_zero, List.set_cons_succ]
            refine wpAnyH_ready (rs := [15]) (by kernel_rfl) (by simp) ?_
            refine AllReadyH.cons (o := _) rfl (fun K hK => ?_) AllReadyH.nil
            have BST : Below w3.heap.size w3 (zc.alloc (.cells #[.int .i64 0, .slice aE 0 cE] 25)) := belT (belT BS BZC) (belA1 (belR _))
            go_simp
            refine hK.out _ _ (show World.cell? _ _ = _ ∧ World.cell? _ _ = _ ∧ World.cell? _ _ = _ ∧ World.cell? _ _ = _ from HR.out _ BST) (fun hHeld => ?_)
            clear hK K
            try simp only [Act.put, List.getElem_toArray, List.getElem_cons_zero, List.getElem_cons_succ, List.setIfInBounds_toArray, List.set_cons_zero, List.set_cons_succ]
            refine wpAnyH_take (i := 16) (oi := _) (v := ?_) rfl (by kernel_rfl) (by kernel_rfl) (by kernel_rfl) (fun _ _ _ h => h) (Or.inl ⟨by rfl, ?_⟩) (by assumption) ?_
            rotate_left
            · intro w hSw
              (try dsimp only at hSw)
              go_simp
              try with_reducible rfl
            try simp only [Act.put, List.getElem_toArray, List.getElem_cons_zero, List.getElem_cons_succ, List.setIfInBounds_toArray, List.set_cons_zero, List.set_cons_succ]
            refine wpAnyH_done (by kernel_rfl) ?_ _
            go_wp2
            go_meet
            case rel => exact ⟨rfl, by first | exact BST | exact belDr BST⟩
          · go_simp
            refine hK.out _ _ (show World.cell? _ _ = _ ∧ World.cell? _ _ = _ ∧ World.cell? _ _ = _ ∧ World.cell? _ _ = _ from HR.out _ (belT BS (by iterate 8 try (first | assumption | exact belR _ | apply belDr | apply belAlloc)))) (fun hHeld => ?_)
            clear hK K
            try simp only [Act.put, List.getElem_toArray, List.getElem_cons_zero, List.getElem_cons_succ, List.setIfInBounds_toArray, List.set_cons_zero, List.set_cons_succ]
            refine wpAnyH_ready (rs := [10]) (by kernel_rfl) (by simp) ?_
            refine AllReadyH.cons (o := _) rfl (fun K hK => ?_) AllReadyH.nil
            go_simp
            have PQ : ∀ q, q = zs.drew ∨ q = zs → Parts (q.alloc (.cells #[.slice s0 32 t0, .slice s1 32 t1, .slice s2 32 t2] 37)) (.slice (some ⟨zs.heap.size, 0, none⟩) 3 3) [p0, secL n, secL (wrap64 (n + 1))] := by
              rintro q (rfl | rfl)
              · exact Parts.lit3 rfl (Y0.out.up (belT BS (by first | exact belR _ | exact belDr (belR _)))) (Y1.out.up (belT BS (by first | exact belR _ | exact belDr (belR _)))) (Y2.out.up (belT BS (by first | exact belR _ | exact belDr (belR _))))
              · exact Parts.lit3 rfl (Y0.out.up (belT BS (by first | exact belR _ | exact belDr (belR _)))) (Y1.out.up (belT BS (by first | exact belR _ | exact belDr (belR _)))) (Y2.out.up (belT BS (by first | exact belR _ | exact belDr (belR _))))
            refine Calls.mono (decode_any _ [p0, secL n, secL (wrap64 (n + 1))] _ (by exact Parts.up (PQ _ (by first | exact .inl rfl | exact .inr rfl)) (belA1 (belR _)))) ?_
            rintro e zc ⟨sD, vD, lD, erD, rfl, HD, _, bzc, hd⟩
            have hd' : erD = 2 ∧ sD = 0 ∧ lD = [] := by
              rcases hd with ⟨hn', _⟩ | ⟨_, h⟩
              · rw [ris_three _ _ _] at hn'; cases hn'
              · exact h
            obtain ⟨rfl, rfl, rfl⟩ := hd'
            obtain ⟨aE, cE, rfl, _⟩ := HD.shape
            have BZC : Below zs.heap.size zs zc := belT (by iterate 8 try (first | assumption | exact belR _ | apply belDr | apply belAlloc)) bzc
            try go_simp
            refine hK.out _ _ (show World.cell? _ _ = _ ∧ World.cell? _ _ = _ ∧ World.cell? _ _ = _ ∧ World.cell? _ _ = _ from HR.out _ (belT BS BZC)) (fun hHeld => ?_)
            clear hK K
            try simp only [Act.put, List.getElem_toArray, List.getElem_cons_zero, List.getElem_cons_succ, List.setIfInBounds_toArray, List.set_cons_zero, List.set_cons_succ]
            refine wpAnyH_take (i := 11) (oi := _) (v := ?_) rfl (by kernel_rfl) (by kernel_rfl) (by kernel_rfl) (fun _ _ _ h => h) (Or.inl ⟨by rfl, ?_⟩) (by assumption) ?_
            rotate_left
            · intro w hSw
              (try dsimp only at hSw)
              go_simp
              try with_reducible rfl
            try simp only [Act.put, List.getElem_toArray, List.getElem_cons_zero, List.getElem_cons_succ, List.setIfInBounds_toArray, List.set_cons_zero, List.set_cons_succ]
            refine wpAnyH_take (i := 12) (oi := _) (v := ?_) rfl (by kernel_rfl) (by kernel_rfl) (by kernel_rfl) (fun _ _ _ h => h) (Or.inl ⟨by rfl, ?_⟩) (by assumption) ?_
            rotate_left
            · intro w hSw
              (try dsimp only at hSw)
              go_simp
              try with_reducible rfl
            try simp only [Act.put, List.getElem_toArray, List.getElem_cons_zero, List.getElem_cons_succ, List.setIfInBounds_toArray, List.set_cons_zero, List.set_cons_succ]
            refine wpAnyH_take (i := 13) (oi := _) (v := ?_) rfl (by kernel_rfl) (by kernel_rfl) (by kernel_rfl) (fun _ _ _ h => h) (Or.inl ⟨by rfl, ?_⟩) (by assumption) ?_
            rotate_left
            · intro w hSw
              (try dsimp only at hSw)
              go_simp
              try with_reducible rfl
            try simp only [Act.put, List.getElem_toArray, List.getElem_cons_zero, List.getElem_cons_succ, List.setIfInBounds_toArray, List.set_cons_zero, List.set_cons_succ]
            refine wpAnyH_ready (rs := [15]) (by kernel_rfl) (by simp) ?_
            refine AllReadyH.cons (o := _) rfl (fun K hK => ?_) AllReadyH.nil
            have BX : Box zc (zs.heap.size + 1) [.int .i64 0, .slice none 0 0] := by first | (have h := (Box.new (zs.drew.alloc (.cells #[.slice s0 32 t0, .slice s1 32 t1, .slice s2 32 t2] 37)) [.int .i64 0, .slice none 0 0] 25).fr (Fr.of_below (S := fun _ => False) bzc) id; simpa using h) | (have h := (Box.new (zs.alloc (.cells #[.slice s0 32 t0, .slice s1 32 t1, .slice s2 32 t2] 37)) [.int .i64 0, .slice none 0 0] 25).fr (Fr.of_below (S := fun _ => False) bzc) id; simpa using h)
            obtain ⟨⟨m0, m1⟩, m2, m3⟩ := BX.two
            have BST : Below w3.heap.size w3 ((zc.setCell ⟨zs.heap.size + 1, 0, none⟩ (.int .i64 0)).setCell ⟨zs.heap.size + 1, 1, none⟩ (.slice aE 0 cE)) := ((belT BS BZC).setCell (by have := BS.size; show w3.heap.size ≤ zs.heap.size + 1; omega) _).setCell (by have := BS.size; show w3.heap.size ≤ zs.heap.size + 1; omega) _
            go_simp
            refine hK.out _ _ (show World.cell? _ _ = _ ∧ World.cell? _ _ = _ ∧ World.cell? _ _ = _ ∧ World.cell? _ _ = _ from HR.out _ BST) (fun hHeld => ?_)
            clear hK K
            try simp only [Act.put, List.getElem_toArray, List.getElem_cons_zero, List.getElem_cons_succ, List.setIfInBounds_toArray, List.set_cons_zero, List.set_cons_succ]
            refine wpAnyH_take (i := 16) (oi := _) (v := ?_) rfl (by kernel_rfl) (by kernel_rfl) (by kernel_rfl) (fun _ _ _ h => h) (Or.inl ⟨by rfl, ?_⟩) (by assumption) ?_
            rotate_left
            · intro w hSw
              (try dsimp only at hSw)
              go_simp
              try with_reducible rfl
            try simp only [Act.put, List.getElem_toArray, List.getElem_cons_zero, List.getElem_cons_succ, List.setIfInBounds_toArray, List.set_cons_zero, List.set_cons_succ]
            refine wpAnyH_done (by kernel_rfl) ?_ _
            go_wp2
            go_meet
            case rel => exact ⟨rfl, by first | exact BST | exact belDr BST⟩
        · go_simp
          refine hK.out _ _ (show World.cell? _ _ = _ ∧ World.cell? _ _ = _ ∧ World.cell? _ _ = _ ∧ World.cell? _ _ = _ from HR.out _ (belT BS (by iterate 8 try (first | assumption | exact belR _ | apply belDr | apply belAlloc)))) (fun hHeld => ?_)
          clear hK K
          try simp only [Act.put, List.getElem_toArray, List.getElem_cons_zero, List.getElem_cons_succ, List.setIfInBounds_toArray, List.set_cons_zero, List.set_cons_succ]
          refine wpAnyH_ready (rs := [9]) (by kernel_rfl) (by simp) ?_
          refine AllReadyH.cons (o := _) rfl (fun K hK => ?_) AllReadyH.nil
          go_simp
          refine hK.out _ _ (show World.cell? _ _ = _ ∧ World.cell? _ _ = _ ∧ World.cell? _ _ = _ ∧ World.cell? _ _ = _ from HR.out _ (belT BS (by iterate 8 try (first | assumption | exact belR _ | apply belDr | apply belAlloc)))) (fun hHeld => ?_)
          clear hK K
          try simp only [Act.put, List.getElem_toArray, List.getElem_cons_zero, List.getElem_cons_succ, List.setIfInBounds_toArray, List.set_cons_zero, List.set_cons_succ]
          refine wpAnyH_ready (rs := [10]) (by kernel_rfl) (by simp) ?_
          refine AllReadyH.cons (o := _) rfl (fun K hK => ?_) AllReadyH.nil
          go_simp
          refine Calls.mono (decode_any _ [p0, secL n, secL (wrap64 (n + 1))] _ (by exact (Parts.lit3 (by first | rfl | simp) (Y0.out.up (belT BS (by iterate 8 try (first | assumption | exact belR _ | apply belDr | apply belAlloc)))) (Y1.out.up (belT BS (by iterate 8 try (first | assumption | exact belR _ | apply belDr | apply belAlloc)))) (Y2.out.up (belT BS (by iterate 8 try (first | assumption | exact belR _ | apply belDr | apply belAlloc))))))) ?_
          rintro e zc ⟨sD, vD, lD, erD, rfl, HD, _, bzc, hd⟩
          have hd' : erD = 2 ∧ sD = 0 ∧ lD = [] := by
            rcases hd with ⟨hn', _⟩ | ⟨_, h⟩
            · rw [ris_three _ _ _] at hn'; cases hn'
            · exact h
          obtain ⟨rfl, rfl, rfl⟩ := hd'
          obtain ⟨aE, cE, rfl, _⟩ := HD.shape
          have BZC : Below zs.heap.size zs zc := belT (by iterate 8 try (first | assumption | exact belR _ | apply belDr | apply belAlloc)) bzc
          try go_simp
          refine hK.out _ _ (show World.cell? _ _ = _ ∧ World.cell? _ _ = _ ∧ World.cell? _ _ = _ ∧ World.cell? _ _ = _ from HR.out _ (belT BS BZC)) (fun hHeld => ?_)
          clear hK K
          try simp only [Act.put, List.getElem_toArray, List.getElem_cons_zero, List.getElem_cons_succ, List.setIfInBounds_toArray, List.set_cons_zero, List.set_cons_succ]
          refine wpAnyH_take (i := 11) (oi := _) (v := ?_) rfl (by kernel_rfl) (by kernel_rfl) (by kernel_rfl) (fun _ _ _ h => h) (Or.inl ⟨by rfl, ?_⟩) (by assumption) ?_
          rotate_left
          · intro w hSw
            (try dsimp only at hSw)
            go_simp
            try with_reducible rfl
          try simp only [Act.put, List.getElem_toArray, List.getElem_cons_zero, List.getElem_cons_succ, List.setIfInBounds_toArray, List.set_cons_zero, List.set_cons_succ]
          refine wpAnyH_take (i := 12) (oi := _) (v := ?_) rfl (by kernel_rfl) (by kernel_rfl) (by kernel_rfl) (fun _ _ _ h => h) (Or.inl ⟨by rfl, ?_⟩) (by assumption) ?_
          rotate_left
          · intro w hSw
            (try dsimp only at hSw)
            go_simp
            try with_reducible rfl
          try simp only [Act.put, List.getElem_toArray, List.getElem_cons_zero, List.getElem_cons_succ, List.setIfInBounds_toArray, List.set_cons_zero, List.set_cons_succ]
          refine wpAnyH_take (i := 13) (oi := _) (v := ?_) rfl (by kernel_rfl) (by kernel_rfl) (by kernel_rfl) (fun _ _ _ h => h) (Or.inl ⟨by rfl, ?_⟩) (by assumption) ?_
          rotate_left
          · intro w hSw
            (try dsimp only at hSw)
            go_simp
            try with_reducible rfl
          try simp only [Act.put, List.getElem_toArray, List.getElem_cons_zero, List.getElem_cons_succ, List.setIfInBounds_toArray, List.set_cons_zero, List.set_cons_succ]
          refine wpAnyH_ready (rs := [15]) (by kernel_rfl) (by simp) ?_
          refine AllReadyH.cons (o := _) rfl (fun K hK => ?_) AllReadyH.nil
          have BX : Box zc zs.heap.size [.int .i64 0, .slice none 0 0] := by first | exact ((Box.new zs.drew [.int .i64 0, .slice none 0 0] 25).fr (Fr.alloc (S := fun _ => False) _ _) id).fr (Fr.of_below (S := fun _ => False) bzc) id | exact ((Box.new zs [.int .i64 0, .slice none 0 0] 25).fr (Fr.alloc (S := fun _ => False) _ _) id).fr (Fr.of_below (S := fun _ => False) bzc) id
          obtain ⟨⟨m0, m1⟩, m2, m3⟩ := BX.two
          have BST : Below w3.heap.size w3 ((zc.setCell ⟨zs.heap.size, 0, none⟩ (.int .i64 0)).setCell ⟨zs.heap.size, 1, none⟩ (.slice aE 0 cE)) := ((belT BS BZC).setCell (by have := BS.size; exact this) _).setCell (by have := BS.size; exact this) _
          go_simp
          refine hK.out _ _ (show World.cell? _ _ = _ ∧ World.cell? _ _ = _ ∧ World.cell? _ _ = _ ∧ World.cell? _ _ = _ from HR.out _ BST) (fun hHeld => ?_)
          clear hK K
          try simp only [Act.put, List.getElem_toArray, List.getElem_cons_zero, List.getElem_cons_succ, List.setIfInBounds_toArray, List.set_cons_zero, List.set_cons_succ]
          refine wpAnyH_take (i := 16) (oi := _) (v := ?_) rfl (by kernel_rfl) (by kernel_rfl) (by kernel_rfl) (fun _ _ _ h => h) (Or.inl ⟨by rfl, ?_⟩) (by assumption) ?_
          rotate_left
          · intro w hSw
            (try dsimp only at hSw)
            go_simp
            try with_reducible rfl
          try simp only [Act.put, List.getElem_toArray, List.getElem_cons_zero, List.getElem_cons_succ, List.setIfInBounds_toArray, List.set_cons_zero, List.set_cons_succ]
          refine wpAnyH_done (by kernel_rfl) ?_ _
          go_wp2
          go_meet
          case rel => exact ⟨rfl, by first | exact BST | exact belDr BST⟩
      obtain ⟨rfl, BC⟩ := hcut
      clear BS
      go_wp2_with fail
      obtain ⟨zs, hzs⟩ : ∃ zs, zs = wc := ⟨_, rfl⟩
      subst hzs
      have BS := BC
      go_cut [17, 18] from 175 (fun a e Z => e = .int .i64 2 ∧ Below w3.heap.size w3 Z)
      case first =>
        refine wp_region_held_drew (S := fun Z => Z.cell? ⟨rb, ro, none⟩ = some (.slice s0 32 t0) ∧ Z.cell? ⟨rb, ro + 1, none⟩ = some (.slice s1 32 t1) ∧ Z.cell? ⟨rb, ro + 2, none⟩ = some (.slice s2 32 t2) ∧ Z.cell? ⟨rb, ro + 3, none⟩ = some (.slice s3 32 t3)) (by kernel_rfl) (show World.cell? _ _ = _ ∧ World.cell? _ _ = _ ∧ World.cell? _ _ = _ ∧ World.cell? _ _ = _ from HR.out _ (belT BS (by iterate 8 try (first | assumption | exact belR _ | apply belDr | apply belAlloc)))) (fun hHeld => ?_)
        refine wpAnyH_take (i := 0) (oi := _) (v := ?_) rfl (by kernel_rfl) (by kernel_rfl) (by kernel_rfl) (fun _ _ _ h => h) (Or.inl ⟨by rfl, ?_⟩) (by assumption) ?_
        rotate_left
        · intro w hSw
          (try dsimp only at hSw)
          go_simp
          try with_reducible rfl
        try simp only [Act.put, List.getElem_toArray, List.getElem_cons_zero, List.getElem_cons_succ, List.setIfInBounds_toArray, List.set_cons_zero, List.set_cons_succ]
        refine wpAnyH_take (i := 3) (oi := _) (v := ?_) rfl (by kernel_rfl) (by kernel_rfl) (by kernel_rfl) (fun _ _ _ h => h) (Or.inl ⟨by rfl, ?_⟩) (by assumption) ?_
        rotate_left
        · intro w hSw
          (try dsimp only at hSw)
          go_simp
          try with_reducible rfl
        try simp only [Act.put, List.getElem_toArray, List.getElem_cons_zero, List.getElem_cons_succ, List.setIfInBounds_toArray, List.set_cons_zero, List.set_cons_succ]
        refine wpAnyH_take (i := 6) (oi := _) (v := ?_) rfl (by kernel_rfl) (by kernel_rfl) (by kernel_rfl) (fun _ _ _ h => h) (Or.inl ⟨by rfl, ?_⟩) (by assumption) ?_
        rotate_left
        · intro w hSw
          (try dsimp only at hSw)
          go_simp
          try with_reducible rfl
        try simp only [Act.put, List.getElem_toArray, List.getElem_cons_zero, List.getElem_cons_succ, List.setIfInBounds_toArray, List.set_cons_zero, List.set_cons_succ]
        refine wpAnyH_take (i := 9) (oi := _) (v := ?_) rfl (by kernel_rfl) (by kernel_rfl) (by kernel_rfl) (fun _ _ _ h => h) (Or.inl ⟨by rfl, ?_⟩) (by assumption) ?_
        rotate_left
        · intro w hSw
          (try dsimp only at hSw)
          go_simp
          try with_reducible rfl
        try simp only [Act.put, List.getElem_toArray, List.getElem_cons_zero, List.getElem_cons_succ, List.setIfInBounds_toArray, List.set_cons_zero, List.set_cons_succ]
        refine wpAnyH_take (i := 1) (oi := _) (v := ?_) rfl (by kernel_rfl) (by kernel_rfl) (by kernel_rfl) (fun _ _ _ h => h) (Or.inl ⟨by rfl, ?_⟩) (by assumption) ?_
        rotate_left
        · intro w hSw
          (try dsimp only at hSw)
          go_simp
          try with_reducible rfl
        try simp only [Act.put, List.getElem_toArray, List.getElem_cons_zero, List.getElem_cons_succ, List.setIfInBounds_toArray, List.set_cons_zero, List.set_cons_succ]
        refine wpAnyH_take (i := 4) (oi := _) (v := ?_) rfl (by kernel_rfl) (by kernel_rfl) (by kernel_rfl) (fun _ _ _ h => h) (Or.inl ⟨by rfl, ?_⟩) (by assumption) ?_
        rotate_left
        · intro w hSw
          (try dsimp only at hSw)
          go_simp
          try with_reducible rfl
        try simp only [Act.put, List.getElem_toArray, List.getElem_cons_zero, List.getElem_cons_succ, List.setIfInBounds_toArray, List.set_cons_zero, List.set_cons_succ]
        refine wpAnyH_take (i := 7) (oi := _) (v := ?_) rfl (by kernel_rfl) (by kernel_rfl) (by kernel_rfl) (fun _ _ _ h => h) (Or.inl ⟨by rfl, ?_⟩) (by assumption) ?_
        rotate_left
        · intro w hSw
          (try dsimp only at hSw)
          go_simp
          try with_reducible rfl
        try simp only [Act.put, List.getElem_toArray, List.getElem_cons_zero, List.getElem_cons_succ, List.setIfInBounds_toArray, List.set_cons_zero, List.set_cons_succ]
        refine wpAnyH_take (i := 10) (oi := _) (v := ?_) rfl (by kernel_rfl) (by kernel_rfl) (by kernel_rfl) (fun _ _ _ h => h) (Or.inl ⟨by rfl, ?_⟩) (by assumption) ?_
        rotate_left
        · intro w hSw
          (try dsimp only at hSw)
          go_simp
          try with_reducible rfl
        try simp only [Act.put, List.getElem_toArray, List.getElem_cons_zero, List.getElem_cons_succ, List.setIfInBounds_toArray, List.set_cons_zero, List.set_cons_succ]
        refine wpAnyH_take (i := 2) (oi := _) (v := ?_) rfl (by kernel_rfl) (by kernel_rfl) (by kernel_rfl) (fun _ _ _ h => h) (Or.inl ⟨by rfl, ?_⟩) (by assumption) ?_
        rotate_left
        · intro w hSw
          (try dsimp only at hSw)
          go_simp
          try with_reducible rfl
        try simp only [Act.put, List.getElem_toArray, List.getElem_cons_zero, List.getElem_cons_succ, List.setIfInBounds_toArray, List.set_cons_zero, List.set_cons_succ]
        refine wpAnyH_take (i := 5) (oi := _) (v := ?_) rfl (by kernel_rfl) (by kernel_rfl) (by kernel_rfl) (fun _ _ _ h => h) (Or.inl ⟨by rfl, ?_⟩) (by assumption) ?_
        rotate_left
        · intro w hSw
          (try dsimp only at hSw)
          go_simp
          try with_reducible rfl
        try simp only [Act.put, List.getElem_toArray, List.getElem_cons_zero, List.getElem_cons_succ, List.setIfInBounds_toArray, List.set_cons_zero, List.set_cons_succ]
        refine wpAnyH_take (i := 8) (oi := _) (v := ?_) rfl (by kernel_rfl) (by kernel_rfl) (by kernel_rfl) (fun _ _ _ h => h) (Or.inl ⟨by rfl, ?_⟩) (by assumption) ?_
        rotate_left
        · intro w hSw
          (try dsimp only at hSw)
          go_simp
          try with_reducible rfl
        try simp only [Act.put, List.getElem_toArray, List.getElem_cons_zero, List.getElem_cons_succ, List.setIfInBounds_toArray, List.set_cons_zero, List.set_cons_succ]
        refine wpAnyH_take (i := 11) (oi := _) (v := ?_) rfl (by kernel_rfl) (by kernel_rfl) (by kernel_rfl) (fun _ _ _ h => h) (Or.inl ⟨by rfl, ?_⟩) (by assumption) ?_
        rotate_left
        · intro w hSw
          (try dsimp only at hSw)
          go_simp
          try with_reducible rfl
        try simp only [Act.put, List.getElem_toArray, List.getElem_cons_zero, List.getElem_cons_succ, List.setIfInBounds_toArray, List.set_cons_zero, List.set_cons_succ]
        refine wpAnyH_ready (rs := [12, 17]) (by kernel_rfl) (by simp) ?_
        refine AllReadyH.cons (o := _) rfl (fun K hK => ?_) (AllReadyH.cons (o := _) rfl (fun K hK => ?_) AllReadyH.nil)
        · go_simp
          refine hK.out _ _ (show World.cell? _ _ = _ ∧ World.cell? _ _ = _ ∧ World.cell? _ _ = _ ∧ World.cell? _ _ = _ from HR.out _ (belT BS (by iterate 8 try (first | assumption | exact belR _ | apply belDr | apply belAlloc)))) (fun hHeld => ?_)
          clear hK K
          try simp only [Act.put, List.getElem_toArray, List.getElem_cons_zero, List.getElem_cons_succ, List.setIfInBounds_toArray, List.set_cons_zero, List.set_cons_succ]
          refine wpAnyH_ready (rs := [13, 17]) (by kernel_rfl) (by simp) ?_
          refine AllReadyH.cons (o := _) rfl (fun K hK => ?_) (AllReadyH.cons (o := _) rfl (fun K hK => ?_) AllReadyH.nil)
          · go_simp
            refine Calls.mono (decode_any _ [secL n, secL n, secL (wrap64 (n + 1)), zero32] _ (by exact (Parts.lit4 (by first | rfl | simp) (Y1.out.up (belT BS (by iterate 8 try (first | assumption | exact belR _ | apply belDr | apply belAlloc)))) (Y1.out.up (belT BS (by iterate 8 try (first | assumption | exact belR _ | apply belDr | apply belAlloc)))) (Y2.out.up (belT BS (by iterate 8 try (first | assumption | exact belR _ | apply belDr | apply belAlloc)))) (Y3'.out.up (belT BS (by iterate 8 try (first | assumption | exact belR _ | apply belDr | apply belAlloc))))))) ?_
            rintro e zc ⟨sD, vD, lD, erD, rfl, HD, _, bzc, hd⟩
            have hd' : erD = 2 ∧ sD = 0 ∧ lD = [] := by
              rcases hd with ⟨hn', _⟩ | ⟨_, h⟩
              · rw [ris_mark n _ _ _] at hn'; cases hn'
              · exact h
            obtain ⟨rfl, rfl, rfl⟩ := hd'
            obtain ⟨aE, cE, rfl, _⟩ := HD.shape
            have BZC : Below zs.heap.size zs zc := belT (by iterate 8 try (first | assumption | exact belR _ | apply belDr | apply belAlloc)) bzc
            try go_simp
            refine hK.out _ _ (show World.cell? _ _ = _ ∧ World.cell? _ _ = _ ∧ World.cell? _ _ = _ ∧ World.cell? _ _ = _ from HR.out _ (belT BS BZC)) (fun hHeld => ?_)
            clear hK K
            try simp only [Act.put, List.getElem_toArray, List.getElem_cons_zero, List.getElem_cons_succ, List.setIfInBounds_toArray, List.set_cons_zero, List.set_cons_succ]
            refine wpAnyH_take (i := 14) (oi := _) (v := ?_) rfl (by kernel_rfl) (by kernel_rfl) (by kernel_rfl) (fun _ _ _ h => h) (Or.inl ⟨by rfl, ?_⟩) (by assumption) ?_
            rotate_left
            · intro w hSw
              (try dsimp only at hSw)
              go_simp
              try with_reducible rfl
            try simp only [Act.put, List.getElem_toArray, List.getElem_cons_zero, List.getElem_cons_succ, List.setIfInBounds_toArray, List.set_cons_zero, List.set_cons_succ]
            refine wpAnyH_take (i := 15) (oi := _) (v := ?_) rfl (by kernel_rfl) (by kernel_rfl) (by kernel_rfl) (fun _ _ _ h => h) (Or.inl ⟨by rfl, ?_⟩) (by assumption) ?_
            rotate_left
            · intro w hSw
              (try dsimp only at hSw)
              go_simp
              try with_reducible rfl
            try simp only [Act.put, List.getElem_toArray, List.getElem_cons_zero, List.getElem_cons_succ, List.setIfInBounds_toArray, List.set_cons_zero, List.set_cons_succ]
            refine wpAnyH_take (i := 16) (oi := _) (v := ?_) rfl (by kernel_rfl) (by kernel_rfl) (by kernel_rfl) (fun _ _ _ h => h) (Or.inl ⟨by rfl, ?_⟩) (by assumption) ?_
            rotate_left
            · intro w hSw
              (try dsimp only at hSw)
              go_simp
              try with_reducible rfl
            try simp only [Act.put, List.getElem_toArray, List.getElem_cons_zero, List.getElem_cons_succ, List.setIfInBounds_toArray, List.set_cons_zero, List.set_cons_succ]
            refine wpAnyH_ready (rs := [17]) (by kernel_rfl) (by simp) ?_
            refine AllReadyH.cons (o := _) rfl (fun K hK => ?_) AllReadyH.nil
            go_simp
            refine hK.out _ _ (show World.cell? _ _ = _ ∧ World.cell? _ _ = _ ∧ World.cell? _ _ = _ ∧ World.cell? _ _ = _ from HR.out _ (belT BS (by iterate 8 try (first | assumption | exact belR _ | apply belDr | apply belAlloc)))) (fun hHeld => ?_)
            clear hK K
            try simp only [Act.put, List.getElem_toArray, List.getElem_cons_zero, List.getElem_cons_succ, List.setIfInBounds_toArray, List.set_cons_zero, List.set_cons_succ]
            refine wpAnyH_ready (rs := [18]) (by kernel_rfl) (by simp) ?_
            refine AllReadyH.cons (o := _) rfl (fun K hK => ?_) AllReadyH.nil
            have BST : Below w3.heap.size w3 (zc.alloc (.cells #[.int .i64 0, .slice aE 0 cE] 25)) := belT (belT BS BZC) (belA1 (belR _))
            go_simp
            refine hK.out _ _ (show World.cell? _ _ = _ ∧ World.cell? _ _ = _ ∧ World.cell? _ _ = _ ∧ World.cell? _ _ = _ from HR.out _ BST) (fun hHeld => ?_)
            clear hK K
            try simp only [Act.put, List.getElem_toArray, List.getElem_cons_zero, List.getElem_cons_succ, List.setIfInBounds_toArray, List.set_cons_zero, List.set_cons_succ]
            refine wpAnyH_take (i := 19) (oi := _) (v := ?_) rfl (by kernel_rfl) (by kernel_rfl) (by kernel_rfl) (fun _ _ _ h => h) (Or.inl ⟨by rfl, ?_⟩) (by assumption) ?_
            rotate_left
            · intro w hSw
              (try dsimp only at hSw)
              go_simp
              try with_reducible rfl
            try simp only [Act.put, List.getElem_toArray, List.getElem_cons_zero, List.getElem_cons_succ, List.setIfInBounds_toArray, List.set_cons_zero, List.set_cons_succ]
            refine wpAnyH_done (by kernel_rfl) ?_ _
            go_wp2
            go_meet
            case rel => exact ⟨rfl, by first | exact BST | exact belDr BST⟩
          · go_simp
            refine hK.out _ _ (show World.cell? _ _ = _ ∧ World.cell? _ _ = _ ∧ World.cell? _ _ = _ ∧ World.cell? _ _ = _ from HR.out _ (belT BS (by iterate 8 try (first | assumption | exact belR _ | apply belDr | apply belAlloc)))) (fun hHeld => ?_)
            clear hK K
            try simp only [Act.put, List.getElem_toArray, List.getElem_cons_zero, List.getElem_cons_succ, List.setIfInBounds_toArray, List.set_cons_zero, List.set_cons_succ]
            refine wpAnyH_ready (rs := [13]) (by kernel_rfl) (by simp) ?_
            refine AllReadyH.cons (o := _) rfl (fun K hK => ?_) AllReadyH.nil
            go_simp
            have PQ : ∀ q, q = zs.drew ∨ q = zs → Parts (q.alloc (.cells #[.slice s1 32 t1, .slice s1 32 t1, .slice s2 32 t2, .slice s3 32 t3] 37)) (.slice (some ⟨zs.heap.size, 0, none⟩) 4 4) [secL n, secL n, secL (wrap64 (n + 1)), zero32] := by
              rintro q (rfl | rfl)
              · exact Parts.lit4 rfl (Y1.out.up (belT BS (by first | exact belR _ | exact belDr (belR _)))) (Y1.out.up (belT BS (by first | exact belR _ | exact belDr (belR _)))) (Y2.out.up (belT BS (by first | exact belR _ | exact belDr (belR _)))) (Y3'.out.up (belT BS (by first | exact belR _ | exact belDr (belR _))))
              · exact Parts.lit4 rfl (Y1.out.up (belT BS (by first | exact belR _ | exact belDr (belR _)))) (Y1.out.up (belT BS (by first | exact belR _ | exact belDr (belR _)))) (Y2.out.up (belT BS (by first | exact belR _ | exact belDr (belR _)))) (Y3'.out.up (belT BS (by first | exact belR _ | exact belDr (belR _))))
            refine Calls.mono (decode_any _ [secL n, secL n, secL (wrap64 (n + 1)), zero32] _ (by exact Parts.up (PQ _ (by first | exact .inl rfl | exact .inr rfl)) (belA1 (belR _)))) ?_
            rintro e zc ⟨sD, vD, lD, erD, rfl, HD, _, bzc, hd⟩
            have hd' : erD = 2 ∧ sD = 0 ∧ lD = [] := by
              rcases hd with ⟨hn', _⟩ | ⟨_, h⟩
              · rw [ris_mark n _ _ _] at hn'; cases hn'
              · exact h
            obtain ⟨rfl, rfl, rfl⟩ := hd'
            obtain ⟨aE, cE, rfl, _⟩ := HD.shape
            have BZC : Below zs.heap.size zs zc := belT (by iterate 8 try (first | assumption | exact belR _ | apply belDr | apply belAlloc)) bzc
            try go_simp
            refine hK.out _ _ (show World.cell? _ _ = _ ∧ World.cell? _ _ = _ ∧ World.cell? _ _ = _ ∧ World.cell? _ _ = _ from HR.out _ (belT BS BZC)) (fun hHeld => ?_)
            clear hK K
            try simp only [Act.put, List.getElem_toArray, List.getElem_cons_zero, List.getElem_cons_succ, List.setIfInBounds_toArray, List.set_cons_zero, List.set_cons_succ]
            refine wpAnyH_take (i := 14) (oi := _) (v := ?_) rfl (by kernel_rfl) (by kernel_rfl) (by kernel_rfl) (fun _ _ _ h => h) (Or.inl ⟨by rfl, ?_⟩) (by assumption) ?_
            rotate_left
            · intro w hSw
              (try dsimp only at hSw)
              go_simp
              try with_reducible rfl
            try simp only [Act.put, List.getElem_toArray, List.getElem_cons_zero, List.getElem_cons_succ, List.setIfInBounds_toArray, List.set_cons_zero, List.set_cons_succ]
            refine wpAnyH_take (i := 15) (oi := _) (v := ?_) rfl (by kernel_rfl) (by kernel_rfl) (by kernel_rfl) (fun _ _ _ h => h) (Or.inl ⟨by rfl, ?_⟩) (by assumption) ?_
            rotate_left
            · intro w hSw
              (try dsimp only at hSw)
              go_simp
              try with_reducible rfl
            try simp only [Act.put, List.getElem_toArray, List.getElem_cons_zero, List.getElem_cons_succ, List.setIfInBounds_toArray, List.set_cons_zero, List.set_cons_succ]
            refine wpAnyH_take (i := 16) (oi := _) (v := ?_) rfl (by kernel_rfl) (by kernel_rfl) (by kernel_rfl) (fun _ _ _ h => h) (Or.inl ⟨by rfl, ?_⟩) (by assumption) ?_
            rotate_left
            · intro w hSw
              (try dsimp only at hSw)
              go_simp
              try with_reducible rfl
            try simp only [Act.put, List.getElem_toArray, List.getElem_cons_zero, List.getElem_cons_succ, List.setIfInBounds_toArray, List.set_cons_zero, List.set_cons_succ]
            refine wpAnyH_ready (rs := [18]) (by kernel_rfl) (by simp) ?_
            refine AllReadyH.cons (o := _) rfl (fun K hK => ?_) AllReadyH.nil
            have BX : Box zc (zs.heap.size + 1) [.int .i64 0, .slice none 0 0] := by first | (have h := (Box.new (zs.drew.alloc (.cells #[.slice s1 32 t1, .slice s1 32 t1, .slice s2 32 t2, .slice s3 32 t3] 37)) [.int .i64 0, .slice none 0 0] 25).fr (Fr.of_below (S := fun _ => False) bzc) id; simpa using h) | (have h := (Box.new (zs.alloc (.cells #[.slice s1 32 t1, .slice s1 32 t1, .slice s2 32 t2, .slice s3 32 t3] 37)) [.int .i64 0, .slice none 0 0] 25).fr (Fr.of_below (S := fun _ => False) bzc) id; simpa using h)
            obtain ⟨⟨m0, m1⟩, m2, m3⟩ := BX.two
            have BST : Below w3.heap.size w3 ((zc.setCell ⟨zs.heap.size + 1, 0, none⟩ (.int .i64 0)).setCell ⟨zs.heap.size + 1, 1, none⟩ (.slice aE 0 cE)) := ((belT BS BZC).setCell (by have := BS.size; show w3.heap.size ≤ zs.heap.size + 1; omega) _).setCell (by have := BS.size; show w3.heap.size ≤ zs.heap.size + 1; omega) _
            go_simp
            refine hK.out _ _ (show World.cell? _ _ = _ ∧ World.cell? _ _ = _ ∧ World.cell? _ _ = _ ∧ World.cell? _ _ = _ from HR.out _ BST) (fun hHeld => ?_)
            clear hK K
            try simp only [Act.put, List.getElem_toArray, List.getElem_cons_zero, List.getElem_cons_succ, List.setIfInBounds_toArray, List.set_cons_zero, List.set_cons_succ]
            refine wpAnyH_take (i := 19) (oi := _) (v := ?_) rfl (by kernel_rfl) (by kernel_rfl) (by kernel_rfl) (fun _ _ _ h => h) (Or.inl ⟨by rfl, ?_⟩) (by assumption) ?_
            rotate_left
            · intro w hSw
              (try dsimp only at hSw)
              go_simp
              try with_reducible rfl
            try simp only [Act.put, List.getElem_toArray, List.getElem_cons_zero, List.getElem_cons_succ, List.setIfInBounds_toArray, List.set_cons_zero, List.set_cons_succ]
            refine wpAnyH_done (by kernel_rfl) ?_ _
            go_wp2
            go_meet
            case rel => exact ⟨rfl, by first | exact BST | exact belDr BST⟩
        · go_simp
          refine hK.out _ _ (show World.cell? _ _ = _ ∧ World.cell? _ _ = _ ∧ World.cell? _ _ = _ ∧ World.cell? _ _ = _ from HR.out _ (belT BS (by iterate 8 try (first | assumption | exact belR _ | apply belDr | apply belAlloc)))) (fun hHeld => ?_)
          clear hK K
          try simp only [Act.put, List.getElem_toArray, List.getElem_cons_zero, List.getElem_cons_succ, List.setIfInBounds_toArray, List.set_cons_zero, List.set_cons_succ]
          refine wpAnyH_ready (rs := [12]) (by kernel_rfl) (by simp) ?_
          refine AllReadyH.cons (o := _) rfl (fun K hK => ?_) AllReadyH.nil
          go_simp
          refine hK.out _ _ (show World.cell? _ _ = _ ∧ World.cell? _ _ = _ ∧ World.cell? _ _ = _ ∧ World.cell? _ _ = _ from HR.out _ (belT BS (by iterate 8 try (first | assumption | exact belR _ | apply belDr | apply belAlloc)))) (fun hHeld => ?_)
          clear hK K
          try simp only [Act.put, List.getElem_toArray, List.getElem_cons_zero, List.getElem_cons_succ, List.setIfInBounds_toArray, List.set_cons_zero, List.set_cons_succ]
          refine wpAnyH_ready (rs := [13]) (by kernel_rfl) (by simp) ?_
          refine AllReadyH.cons (o := _) rfl (fun K hK => ?_) AllReadyH.nil
          go_simp
          refine Calls.mono (decode_any _ [secL n, secL n, secL (wrap64 (n + 1)), zero32] _ (by exact (Parts.lit4 (by first | rfl | simp) (Y1.out.up (belT BS (by iterate 8 try (first | assumption | exact belR _ | apply belDr | apply belAlloc)))) (Y1.out.up (belT BS (by iterate 8 try (first | assumption | exact belR _ | apply belDr | apply belAlloc)))) (Y2.out.up (belT BS (by iterate 8 try (first | assumption | exact belR _ | apply belDr | apply belAlloc)))) (Y3'.out.up (belT BS (by iterate 8 try (first | assumption | exact belR _ | apply belDr | apply belAlloc))))))) ?_
          rintro e zc ⟨sD, vD, lD, erD, rfl, HD, _, bzc, hd⟩
          have hd' : erD = 2 ∧ sD = 0 ∧ lD = [] := by
            rcases hd with ⟨hn', _⟩ | ⟨_, h⟩
            · rw [ris_mark n _ _ _] at hn'; cases hn'
            · exact h
          obtain ⟨rfl, rfl, rfl⟩ := hd'
          obtain ⟨aE, cE, rfl, _⟩ := HD.shape
          have BZC : Below zs.heap.size zs zc := belT (by iterate 8 try (first | assumption | exact belR _ | apply belDr | apply belAlloc)) bzc
          try go_simp
          refine hK.out _ _ (show World.cell? _ _ = _ ∧ World.cell? _ _ = _ ∧ World.cell? _ _ = _ ∧ World.cell? _ _ = _ from HR.out _ (belT BS BZC)) (fun hHeld => ?_)
          clear hK K
          try simp only [Act.put, List.getElem_toArray, List.getElem_cons_zero, List.getElem_cons_succ, List.setIfInBounds_toArray, List.set_cons_zero, List.set_cons_succ]
          refine wpAnyH_take (i := 14) (oi := _) (v := ?_) rfl (by kernel_rfl) (by kernel_rfl) (by kernel_rfl) (fun _ _ _ h => h) (Or.inl ⟨by rfl, ?_⟩) (by assumption) ?_
          rotate_left
          · intro w hSw
            (try dsimp only at hSw)
            go_simp
            try with_reducible rfl
          try simp only [Act.put, List.getElem_toArray, List.getElem_cons_zero, List.getElem_cons_succ, List.setIfInBounds_toArray, List.set_cons_zero, List.set_cons_succ]
          refine wpAnyH_take (i := 15) (oi := _) (v := ?_) rfl (by kernel_rfl) (by kernel_rfl) (by kernel_rfl) (fun _ _ _ h => h) (Or.inl ⟨by rfl, ?_⟩) (by assumption) ?_
          rotate_left
          · intro w hSw
            (try dsimp only at hSw)
            go_simp
            try with_reducible rfl
          try simp only [Act.put, List.getElem_toArray, List.getElem_cons_zero, List.getElem_cons_succ, List.setIfInBounds_toArray, List.set_cons_zero, List.set_cons_succ]
          refine wpAnyH_take (i := 16) (oi := _) (v := ?_) rfl (by kernel_rfl) (by kernel_rfl) (by kernel_rfl) (fun _ _ _ h => h) (Or.inl ⟨by rfl, ?_⟩) (by assumption) ?_
          rotate_left
          · intro w hSw
            (try dsimp only at hSw)
            go_simp
            try with_reducible rfl
          try simp only [Act.put, List.getElem_toArray, List.getElem_cons_zero, List.getElem_cons_succ, List.setIfInBounds_toArray, List.set_cons_zero, List.set_cons_succ]
          refine wpAnyH_ready (rs := [18]) (by kernel_rfl) (by simp) ?_
          refine AllReadyH.cons (o := _) rfl (fun K hK => ?_) AllReadyH.nil
          have BX : Box zc zs.heap.size [.int .i64 0, .slice none 0 0] := by first | exact ((Box.new zs.drew [.int .i64 0, .slice none 0 0] 25).fr (Fr.alloc (S := fun _ => False) _ _) id).fr (Fr.of_below (S := fun _ => False) bzc) id | exact ((Box.new zs [.int .i64 0, .slice none 0 0] 25).fr (Fr.alloc (S := fun _ => False) _ _) id).fr (Fr.of_below (S := fun _ => False) bzc) id
          obtain ⟨⟨m0, m1⟩, m2, m3⟩ := BX.two
          have BST : Below w3.heap.size w3 ((zc.setCell ⟨zs.heap.size, 0, none⟩ (.int .i64 0)).setCell ⟨zs.heap.size, 1, none⟩ (.slice aE 0 cE)) := ((belT BS BZC).setCell (by have := BS.size; exact this) _).setCell (by have := BS.size; exact this) _
          go_simp
          refine hK.out _ _ (show World.cell? _ _ = _ ∧ World.cell? _ _ = _ ∧ World.cell? _ _ = _ ∧ World.cell? _ _ = _ from HR.out _ BST) (fun hHeld => ?_)
          clear hK K
          try simp only [Act.put, List.getElem_toArray, List.getElem_cons_zero, List.getElem_cons_succ, List.setIfInBounds_toArray, List.set_cons_zero, List.set_cons_succ]
          refine wpAnyH_take (i := 19) (oi := _) (v := ?_) rfl (by kernel_rfl) (by kernel_rfl) (by kernel_rfl) (fun _ _ _ h => h) (Or.inl ⟨by rfl, ?_⟩) (by assumption) ?_
          rotate_left
          · intro w hSw
            (try dsimp only at hSw)
            go_simp
            try with_reducible rfl
          try simp only [Act.put, List.getElem_toArray, List.getElem_cons_zero, List.getElem_cons_succ, List.setIfInBounds_toArray, List.set_cons_zero, List.set_cons_succ]
          refine wpAnyH_done (by kernel_rfl) ?_ _
          go_wp2
          go_meet
          case rel => exact ⟨rfl, by first | exact BST | exact belDr BST⟩
      obtain ⟨rfl, BC2⟩ := hcut
      go_wp2_with fail
      refine Calls.mono (wakes11_any _) ?_
      rintro e z9 ⟨rfl, b9⟩
      go_wp2_with fail
      go_ret
      exact ⟨rfl, belT b1 (belT b2 (belT B3 (belT BC2 b9)))⟩
end Go.Proofs.Ytgnnkglmlopldaa
