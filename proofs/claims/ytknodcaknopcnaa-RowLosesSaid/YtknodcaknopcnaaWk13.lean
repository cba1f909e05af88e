/- The walks of wattlelaw13.wakes and wattleplay.Sectors. -/
import Derived.Test.YtknodcaknopcnaaRwT
import Derived.Test.YtknodcaknopcnaaSyndRef
import Derived.Test.YtknodcaknopcnaaPlayG
import Derived.Test.YtknodcaknopcnaaSameR
namespace Go.Proofs.Ytknodcaknopcnaa
open Go.RowKit
set_option linter.unusedVariables false
set_option linter.unusedSimpArgs false
set_option maxRecDepth 100000
set_option maxHeartbeats 2000000

/-- sectors of numbers: so many -/
def sectL (l : List Int) (n : Nat) : List (List Nat) := (List.range n).map (fun i => secL (l.getD i (3 * (i : Int))))
theorem sectL_len (l : List Int) (n : Nat) : (sectL l n).length = n := by simp [sectL]
theorem sectL_32 (l : List Int) (n : Nat) : ∀ p ∈ sectL l n, p.length = 32 := by
  intro p hp
  obtain ⟨i, _, rfl⟩ := List.mem_map.1 hp
  exact secL_len _
theorem sectL_byte (l : List Int) (n : Nat) : ∀ p ∈ sectL l n, ∀ x ∈ p, x < 256 := by
  intro p hp
  obtain ⟨i, _, rfl⟩ := List.mem_map.1 hp
  exact secL_byte _
theorem sectL_step (l : List Int) (n : Nat) : sectL l (n + 1) = sectL l n ++ [secL (l.getD n (3 * (n : Int)))] := by
  unfold sectL
  rw [List.range_succ, List.map_append]; rfl
attribute [local irreducible] Go.Calls Byt Own Parts RowB OwnD RowL
theorem sectors13_any (lv : Value) (l : List Int) (n : Nat) (w : World) (h : Ints w lv l) (hn : n ≤ 1000) :
    Calls Try.prog 27 #[lv, .int .i64 n] w fun e w' => ∃ v', e = .returned v' ∧ OwnD w' w.heap.size v' (sectL l n) (fun _ => False) ∧ Below w.heap.size w w' := by
  obtain ⟨i0, hi, hz0, hz1, hz2⟩ := info_parts parts_info
  have HI := Lib.hid h
  obtain ⟨al, cl, rfl, hl1, hl2⟩ := h.shapeI
  obtain ⟨m, hm⟩ : ∃ m, m = l.length := ⟨_, rfl⟩
  rw [← hm] at HI hl1 ⊢
  have HM := Lib.hid hm
  have HN := Lib.hid hn
  clear h hm hn
  go_enter Try.func27, Try.ntmps27
  go_wp2
  go_loopw [5, 6] (fun v i X => ∃ k : Nat, k ≤ n ∧ i = .int .i64 k ∧ Hid (OwnD X w.heap.size v (sectL l k) (fun _ => False)) ∧ Below w.heap.size w X) (fun _ i _ => n - (intOf i).toNat)
  case atStart => exact ⟨0, Nat.zero_le _, rfl, Lib.hid (OwnD.nil _ _ _), belR _⟩
  case round =>
    obtain ⟨k, hk, rfl, hO, BX⟩ := hrel
    by_cases hlt : k < n
    · have HLT := Lib.hid hlt
      have hkn : (k : Int) < (n : Int) := by omega
      have hk0 : (0 : Int) ≤ (k : Int) := by omega
      have hk1' : IntKind.i64.wrap ((k : Int) + 1) = ((k + 1 : Nat) : Int) := by have := HN.out; rw [IntKind.wrap_i64]; omega
      have hk3 : IntKind.i64.wrap (3 * (k : Int)) = 3 * (k : Int) := by have := HN.out; rw [IntKind.wrap_i64]; omega
      have HL2 : Hid ((sectL l k).length ≤ 1048576) := Lib.hid (by rw [sectL_len]; have := HN.out; omega)
      clear hlt
      by_cases hkm : k < m
      · have hkm' : (k : Int) < (m : Int) := by omega
        obtain ⟨bb, ob, x, rfl, hx, hxk, hx8⟩ := (HI.out.up BX).cellAt (k := k) (by rw [← HM.out]; exact hkm)
        have EX : Hid (secL (l.getD k (3 * (k : Int))) = secL x) := by show _ = _; rw [List.getD, hxk.out]; rfl
        have HX8 := Lib.hid hx8
        clear hkm hx8
        go_wp2_with (first
          | (go_at_call 25; go_loud (refine Calls.mono (sector_any x _ HX8.out) ?_); rintro e w5 ⟨v5, rfl, O5, b5⟩; obtain ⟨a5, k5, rfl, _, _⟩ := O5.byt.shapeN (secL_len x))
          | (at_builtin; go_loud (refine wpList_append_rowD rfl (.tmp 23) (.tmp 26) 25 rfl i0 Try.underlying25 hi hz0 hz1 hz2 w.heap.size _ _ _ rfl wr (belA1 b5) hO.out (fun g hg => hg.elim) _ _ (secL x) rfl (At.one _ _ _ (by first | rfl | simp)) (O5.up (belA1 (belR _))) HL2.out BX.size ?_); intro v6 w6 O6 g6))
        go_roundw
        case rel => exact ⟨k + 1, HLT.out, by go_num, Lib.hid (by rw [sectL_step, EX.out]; exact O6), belG (belA1 (belT BX b5)) g6 (fun g hg => hO.out.ge g hg)⟩
        case measure => have := HLT.out; simp [intOf]; omega
      · have hkB : decide ((k : Int) < (m : Int)) = false := by rw [decide_eq_false_iff_not]; omega
        have hkP : ((k : Int) < (m : Int)) = False := by rw [eq_iff_iff]; exact ⟨fun h => by omega, fun h => h.elim⟩
        have EX : Hid (secL (l.getD k (3 * (k : Int))) = secL (3 * (k : Int))) := by show _ = _; rw [List.getD, List.getElem?_eq_none (by rw [← HM.out]; omega)]; rfl
        have HX8 : Hid (-9223372036854775808 ≤ 3 * (k : Int) ∧ 3 * (k : Int) ≤ 9223372036854775807) := by have := HN.out; have := HLT.out; show _ ∧ _; omega
        clear hkm
        go_wp2_with (first
          | (go_at_call 25; go_loud (refine Calls.mono (sector_any (3 * (k : Int)) _ HX8.out) ?_); rintro e w5 ⟨v5, rfl, O5, b5⟩; obtain ⟨a5, k5, rfl, _, _⟩ := O5.byt.shapeN (secL_len (3 * (k : Int))))
          | (at_builtin; go_loud (refine wpList_append_rowD rfl (.tmp 23) (.tmp 26) 25 rfl i0 Try.underlying25 hi hz0 hz1 hz2 w.heap.size _ _ _ rfl wr (belA1 b5) hO.out (fun g hg => hg.elim) _ _ (secL (3 * (k : Int))) rfl (At.one _ _ _ (by first | rfl | simp)) (O5.up (belA1 (belR _))) HL2.out BX.size ?_); intro v6 w6 O6 g6))
        go_roundw
        case rel => exact ⟨k + 1, HLT.out, by go_num, Lib.hid (by rw [sectL_step, EX.out]; exact O6), belG (belA1 (belT BX b5)) g6 (fun g hg => hO.out.ge g hg)⟩
        case measure => have := HLT.out; simp [intOf]; omega
    · have e1 : k = n := by omega
      subst e1
      go_wp2
      go_ret
      exact ⟨_, rfl, hO.out, BX⟩
theorem wakes13_any (w : World) : Calls Try.prog 26 #[] w fun e w' => e = .returned (.bool true) ∧ Below w.heap.size w w' := by
  obtain ⟨A, hA⟩ : ∃ A, A = secL 1 := ⟨_, rfl⟩
  obtain ⟨B, hB⟩ : ∃ B, B = secL 2 := ⟨_, rfl⟩
  have lA : A.length = 32 := by rw [hA]; exact secL_len _
  have lB : B.length = 32 := by rw [hB]; exact secL_len _
  have HA := Lib.hid hA
  have HB := Lib.hid hB
  have LA := Lib.hid lA
  have LB := Lib.hid lB
  have HF : Hid (Y.fillL 5 3 1 0 [A, B] = [A, B, Y.P [A, B]]) := by show _ = _; simp [Y.fillL, Y.fillP, Y.fillA, Y.off, Y.pd, List.replicate, List.getD]
  have LP : Hid ((Y.P [A, B]).length = 32) := Lib.hid (Y.P_len (by simp [lA, lB]) (by simp))
  have H32 : Hid (∀ p ∈ [A, B], p.length = 32) := Lib.hid (by simp [lA, lB])
  clear hA hB lA lB
  go_enter Try.func26, Try.ntmps26
  go_wp2_with fail
  refine Calls.mono (sector_any 1 _ (by decide)) ?_
  rintro e w1 ⟨v1, rfl, O1, b1⟩
  rw [← HA.out] at O1
  obtain ⟨a1, k1, rfl, _, _⟩ := O1.byt.shapeN LA.out
  go_wp2_with fail
  refine Calls.mono (sector_any 2 _ (by decide)) ?_
  rintro e w2 ⟨v2, rfl, O2, b2⟩
  rw [← HB.out] at O2
  obtain ⟨a2, k2, rfl, _, _⟩ := O2.byt.shapeN LB.out
  have Y1 := Lib.hid (O1.byt.up b2)
  have Y2 := Lib.hid O2.byt
  have B2 := belT b1 b2
  clear O1 O2 b1 b2
  go_wp2_with fail
  refine Calls.mono (fill_any 5 3 1 0 _ [A, B] _ (by unfold Y.okN; omega) (by decide) (Parts.lit2 rfl Y1.out Y2.out) rfl H32.out) ?_
  rintro e w3 ⟨v3, rfl, O3, b3⟩
  rw [HF.out] at O3
  obtain ⟨gl, cl, rfl, hg1, hg2, _, _⟩ := O3.toB.shape (by simp)
  dsimp only [List.length_cons, List.length_nil] at *
  obtain ⟨c0, p0, hc0, _, hp0, hy0⟩ := O3.at (k := 0) (by simp)
  obtain ⟨c1, p1, hc1, _, hp1, hy1⟩ := O3.at (k := 1) (by simp)
  obtain ⟨c2, p2, hc2, _, hp2, hy2⟩ := O3.at (k := 2) (by simp)
  obtain rfl : p0 = A := (Option.some.inj hp0.out).symm
  obtain rfl : p1 = B := (Option.some.inj hp1.out).symm
  obtain rfl : p2 = Y.P [p0, p1] := (Option.some.inj hp2.out).symm
  obtain ⟨d0, e0, rfl, _, _⟩ := hy0.shapeN LA.out
  obtain ⟨d1, e1, rfl, _, _⟩ := hy1.shapeN LB.out
  obtain ⟨d2, e2, rfl, _, _⟩ := hy2.shapeN LP.out
  have Z0 := Lib.hid hy0
  have Z1 := Lib.hid hy1
  have Z2 := Lib.hid hy2
  have B3 := belT B2 (belT (belA1 (belR _)) b3)
  have Y13 := Lib.hid (Y1.out.up (belT (belA1 (belR _)) b3))
  have Y23 := Lib.hid (Y2.out.up (belT (belA1 (belR _)) b3))
  have HK : Hid (∀ X, Below w3.heap.size w3 X → X.cell? ⟨gl, 0, none⟩ = some (.slice d0 32 e0) ∧ X.cell? ⟨gl, 1, none⟩ = some (.slice d1 32 e1) ∧ X.cell? ⟨gl, 2, none⟩ = some (.slice d2 32 e2)) := fun X hX => by
    rw [hX.cell (p := ⟨gl, 0, none⟩) hg2, hX.cell (p := ⟨gl, 1, none⟩) hg2, hX.cell (p := ⟨gl, 2, none⟩) hg2]
    exact ⟨hc0, hc1, hc2⟩
  clear O3 hy0 hy1 hy2 hc0 hc1 hc2 b3
  go_wp2_with fail
  refine wp_region_held_drew (S := fun X => X.cell? ⟨gl, 0, none⟩ = some (.slice d0 32 e0) ∧ X.cell? ⟨gl, 1, none⟩ = some (.slice d1 32 e1) ∧ X.cell? ⟨gl, 2, none⟩ = some (.slice d2 32 e2)) (by kernel_rfl) (by exact HK.out _ (by iterate 8 try (first | assumption | exact belR _ | apply belDr | apply belAlloc))) (fun hHeld => ?_)
  refine wpAnyH_take (i := 0) (oi := _) (v := ?_) rfl (by kernel_rfl) (by kernel_rfl) (by kernel_rfl) (fun _ _ _ h => h) (Or.inl ⟨by rfl, ?_⟩) (by assumption) ?_
  rotate_left
  · intro w hSw
    (try dsimp only at hSw)
    go_simp
    try with_reducible rfl
  try simp only [Act.put, List.getElem_toArray, List.getElem_cons_zero, List.getElem_cons_succ, List.setIfInBounds_toArray, List.set_cons_zero, List.set_cons_succ]
  refine wpAnyH_take (i := 1) (oi := _) (v := ?_) rfl (by kernel_rfl) (by kernel_rfl) (by kernel_rfl) (fun _ _ _ h => h) (Or.inl ⟨by rfl, ?_⟩) (by assumption) ?_
  rotate_left
  · intro w hSw
    (try dsimp only at hSw)
    go_simp
    try with_reducible rfl
  try simp only [Act.put, List.getElem_toArray, List.getElem_cons_zero, List.getElem_cons_succ, List.setIfInBounds_toArray, List.set_cons_zero, List.set_cons_succ]
  refine wpAnyH_take (i := 2) (oi := _) (v := ?_) rfl (by kernel_rfl) (by kernel_rfl) (by kernel_rfl) (fun _ _ _ h => h) (Or.inl ⟨by rfl, ?_⟩) (by assumption) ?_
  rotate_left
  · intro w hSw
    (try dsimp only at hSw)
    go_simp
    try with_reducible rfl
  try simp only [Act.put, List.getElem_toArray, List.getElem_cons_zero, List.getElem_cons_succ, List.setIfInBounds_toArray, List.set_cons_zero, List.set_cons_succ]
  refine wpAnyH_ready (rs := [3]) (by kernel_rfl) (by simp) ?_
  refine AllReadyH.cons (o := _) rfl (fun K hK => ?_) AllReadyH.nil
  go_simp
  refine hK.out _ _ (by exact HK.out _ (by iterate 8 try (first | assumption | exact belR _ | apply belDr | apply belAlloc))) (fun hHeld => ?_)
  clear hK K
  try simp only [Act.put, List.getElem_toArray, List.getElem_cons_zero, List.getElem_cons_succ, List.setIfInBounds_toArray, List.set_cons_zero, List.set_cons_succ]
  refine wpAnyH_take (i := 4) (oi := _) (v := ?_) rfl (by kernel_rfl) (by kernel_rfl) (by kernel_rfl) (fun _ _ _ h => h) (Or.inl ⟨by rfl, ?_⟩) (by assumption) ?_
  rotate_left
  · intro w hSw
    (try dsimp only at hSw)
    go_simp
    try with_reducible rfl
  try simp only [Act.put, List.getElem_toArray, List.getElem_cons_zero, List.getElem_cons_succ, List.setIfInBounds_toArray, List.set_cons_zero, List.set_cons_succ]
  refine wpAnyH_take (i := 5) (oi := _) (v := ?_) rfl (by kernel_rfl) (by kernel_rfl) (by kernel_rfl) (fun _ _ _ h => h) (Or.inl ⟨by rfl, ?_⟩) (by assumption) ?_
  rotate_left
  · intro w hSw
    (try dsimp only at hSw)
    go_simp
    try with_reducible rfl
  try simp only [Act.put, List.getElem_toArray, List.getElem_cons_zero, List.getElem_cons_succ, List.setIfInBounds_toArray, List.set_cons_zero, List.set_cons_succ]
  refine wpAnyH_take (i := 6) (oi := _) (v := ?_) rfl (by kernel_rfl) (by kernel_rfl) (by kernel_rfl) (fun _ _ _ h => h) (Or.inl ⟨by rfl, ?_⟩) (by assumption) ?_
  rotate_left
  · intro w hSw
    (try dsimp only at hSw)
    go_simp
    try with_reducible rfl
  try simp only [Act.put, List.getElem_toArray, List.getElem_cons_zero, List.getElem_cons_succ, List.setIfInBounds_toArray, List.set_cons_zero, List.set_cons_succ]
  refine wpAnyH_take (i := 7) (oi := _) (v := ?_) rfl (by kernel_rfl) (by kernel_rfl) (by kernel_rfl) (fun _ _ _ h => h) (Or.inl ⟨by rfl, ?_⟩) (by assumption) ?_
  rotate_left
  · intro w hSw
    (try dsimp only at hSw)
    go_simp
    try with_reducible rfl
  try simp only [Act.put, List.getElem_toArray, List.getElem_cons_zero, List.getElem_cons_succ, List.setIfInBounds_toArray, List.set_cons_zero, List.set_cons_succ]
  refine wpAnyH_take (i := 10) (oi := _) (v := ?_) rfl (by kernel_rfl) (by kernel_rfl) (by kernel_rfl) (fun _ _ _ h => h) (Or.inl ⟨by rfl, ?_⟩) (by assumption) ?_
  rotate_left
  · intro w hSw
    (try dsimp only at hSw)
    go_simp
    try with_reducible rfl
  try simp only [Act.put, List.getElem_toArray, List.getElem_cons_zero, List.getElem_cons_succ, List.setIfInBounds_toArray, List.set_cons_zero, List.set_cons_succ]
  refine wpAnyH_take (i := 8) (oi := _) (v := ?_) rfl (by kernel_rfl) (by kernel_rfl) (by kernel_rfl) (fun _ _ _ h => h) (Or.inl ⟨by rfl, ?_⟩) (by assumption) ?_
  rotate_left
  · intro w hSw
    (try dsimp only at hSw)
    go_simp
    try with_reducible rfl
  try simp only [Act.put, List.getElem_toArray, List.getElem_cons_zero, List.getElem_cons_succ, List.setIfInBounds_toArray, List.set_cons_zero, List.set_cons_succ]
  refine wpAnyH_take (i := 9) (oi := _) (v := ?_) rfl (by kernel_rfl) (by kernel_rfl) (by kernel_rfl) (fun _ _ _ h => h) (Or.inl ⟨by rfl, ?_⟩) (by assumption) ?_
  rotate_left
  · intro w hSw
    (try dsimp only at hSw)
    go_simp
    try with_reducible rfl
  try simp only [Act.put, List.getElem_toArray, List.getElem_cons_zero, List.getElem_cons_succ, List.setIfInBounds_toArray, List.set_cons_zero, List.set_cons_succ]
  refine wpAnyH_ready (rs := [11]) (by kernel_rfl) (by simp) ?_
  refine AllReadyH.cons (o := _) rfl (fun K hK => ?_) AllReadyH.nil
  go_simp
  refine Calls.mono (same_any _ _ p0 p0 _ (Z0.out.up (by iterate 8 try (first | assumption | exact belR _ | apply belDr | apply belAlloc))) ((Y13.out.up (by iterate 8 try (first | assumption | exact belR _ | apply belDr | apply belAlloc))) )) ?_
  rw [decide_eq_true rfl]
  rintro e ww9 ⟨rfl, dw9⟩
  have Bw9 : Below w3.heap.size w3 ww9 := belT (by iterate 8 try (first | assumption | exact belR _ | apply belDr | apply belAlloc)) (dw9.below _)
  try go_simp
  refine hK.out _ _ (by exact HK.out _ (by iterate 8 try (first | assumption | exact belR _ | apply belDr | apply belAlloc))) (fun hHeld => ?_)
  clear hK K
  try simp only [Act.put, List.getElem_toArray, List.getElem_cons_zero, List.getElem_cons_succ, List.setIfInBounds_toArray, List.set_cons_zero, List.set_cons_succ]
  refine wpAnyH_take (i := 12) (oi := _) (v := ?_) rfl (by kernel_rfl) (by kernel_rfl) (by kernel_rfl) (fun _ _ _ h => h) (Or.inl ⟨by rfl, ?_⟩) (by assumption) ?_
  rotate_left
  · intro w hSw
    (try dsimp only at hSw)
    go_simp
    try with_reducible rfl
  try simp only [Act.put, List.getElem_toArray, List.getElem_cons_zero, List.getElem_cons_succ, List.setIfInBounds_toArray, List.set_cons_zero, List.set_cons_succ]
  refine wpAnyH_take (i := 13) (oi := _) (v := ?_) rfl (by kernel_rfl) (by kernel_rfl) (by kernel_rfl) (fun _ _ _ h => h) (Or.inl ⟨by rfl, ?_⟩) (by assumption) ?_
  rotate_left
  · intro w hSw
    (try dsimp only at hSw)
    go_simp
    try with_reducible rfl
  try simp only [Act.put, List.getElem_toArray, List.getElem_cons_zero, List.getElem_cons_succ, List.setIfInBounds_toArray, List.set_cons_zero, List.set_cons_succ]
  refine wpAnyH_take (i := 14) (oi := _) (v := ?_) rfl (by kernel_rfl) (by kernel_rfl) (by kernel_rfl) (fun _ _ _ h => h) (Or.inl ⟨by rfl, ?_⟩) (by assumption) ?_
  rotate_left
  · intro w hSw
    (try dsimp only at hSw)
    go_simp
    try with_reducible rfl
  try simp only [Act.put, List.getElem_toArray, List.getElem_cons_zero, List.getElem_cons_succ, List.setIfInBounds_toArray, List.set_cons_zero, List.set_cons_succ]
  refine wpAnyH_take (i := 17) (oi := _) (v := ?_) rfl (by kernel_rfl) (by kernel_rfl) (by kernel_rfl) (fun _ _ _ h => h) (Or.inl ⟨by rfl, ?_⟩) (by assumption) ?_
  rotate_left
  · intro w hSw
    (try dsimp only at hSw)
    go_simp
    try with_reducible rfl
  try simp only [Act.put, List.getElem_toArray, List.getElem_cons_zero, List.getElem_cons_succ, List.setIfInBounds_toArray, List.set_cons_zero, List.set_cons_succ]
  refine wpAnyH_take (i := 15) (oi := _) (v := ?_) rfl (by kernel_rfl) (by kernel_rfl) (by kernel_rfl) (fun _ _ _ h => h) (Or.inl ⟨by rfl, ?_⟩) (by assumption) ?_
  rotate_left
  · intro w hSw
    (try dsimp only at hSw)
    go_simp
    try with_reducible rfl
  try simp only [Act.put, List.getElem_toArray, List.getElem_cons_zero, List.getElem_cons_succ, List.setIfInBounds_toArray, List.set_cons_zero, List.set_cons_succ]
  refine wpAnyH_take (i := 16) (oi := _) (v := ?_) rfl (by kernel_rfl) (by kernel_rfl) (by kernel_rfl) (fun _ _ _ h => h) (Or.inl ⟨by rfl, ?_⟩) (by assumption) ?_
  rotate_left
  · intro w hSw
    (try dsimp only at hSw)
    go_simp
    try with_reducible rfl
  try simp only [Act.put, List.getElem_toArray, List.getElem_cons_zero, List.getElem_cons_succ, List.setIfInBounds_toArray, List.set_cons_zero, List.set_cons_succ]
  refine wpAnyH_ready (rs := [18]) (by kernel_rfl) (by simp) ?_
  refine AllReadyH.cons (o := _) rfl (fun K hK => ?_) AllReadyH.nil
  go_simp
  refine Calls.mono (same_any _ _ p1 p1 _ (Z1.out.up (by iterate 8 try (first | assumption | exact belR _ | apply belDr | apply belAlloc))) ((Y23.out.up (by iterate 8 try (first | assumption | exact belR _ | apply belDr | apply belAlloc))) )) ?_
  rw [decide_eq_true rfl]
  rintro e wx9 ⟨rfl, dx9⟩
  have Bx9 : Below w3.heap.size w3 wx9 := belT (by iterate 8 try (first | assumption | exact belR _ | apply belDr | apply belAlloc)) (dx9.below _)
  try go_simp
  refine hK.out _ _ (by exact HK.out _ (by iterate 8 try (first | assumption | exact belR _ | apply belDr | apply belAlloc))) (fun hHeld => ?_)
  clear hK K
  try simp only [Act.put, List.getElem_toArray, List.getElem_cons_zero, List.getElem_cons_succ, List.setIfInBounds_toArray, List.set_cons_zero, List.set_cons_succ]
  refine wpAnyH_take (i := 19) (oi := _) (v := ?_) rfl (by kernel_rfl) (by kernel_rfl) (by kernel_rfl) (fun _ _ _ h => h) (Or.inl ⟨by rfl, ?_⟩) (by assumption) ?_
  rotate_left
  · intro w hSw
    (try dsimp only at hSw)
    go_simp
    try with_reducible rfl
  try simp only [Act.put, List.getElem_toArray, List.getElem_cons_zero, List.getElem_cons_succ, List.setIfInBounds_toArray, List.set_cons_zero, List.set_cons_succ]
  refine wpAnyH_take (i := 20) (oi := _) (v := ?_) rfl (by kernel_rfl) (by kernel_rfl) (by kernel_rfl) (fun _ _ _ h => h) (Or.inl ⟨by rfl, ?_⟩) (by assumption) ?_
  rotate_left
  · intro w hSw
    (try dsimp only at hSw)
    go_simp
    try with_reducible rfl
  try simp only [Act.put, List.getElem_toArray, List.getElem_cons_zero, List.getElem_cons_succ, List.setIfInBounds_toArray, List.set_cons_zero, List.set_cons_succ]
  refine wpAnyH_take (i := 21) (oi := _) (v := ?_) rfl (by kernel_rfl) (by kernel_rfl) (by kernel_rfl) (fun _ _ _ h => h) (Or.inl ⟨by rfl, ?_⟩) (by assumption) ?_
  rotate_left
  · intro w hSw
    (try dsimp only at hSw)
    go_simp
    try with_reducible rfl
  try simp only [Act.put, List.getElem_toArray, List.getElem_cons_zero, List.getElem_cons_succ, List.setIfInBounds_toArray, List.set_cons_zero, List.set_cons_succ]
  refine wpAnyH_take (i := 24) (oi := _) (v := ?_) rfl (by kernel_rfl) (by kernel_rfl) (by kernel_rfl) (fun _ _ _ h => h) (Or.inl ⟨by rfl, ?_⟩) (by assumption) ?_
  rotate_left
  · intro w hSw
    (try dsimp only at hSw)
    go_simp
    try with_reducible rfl
  try simp only [Act.put, List.getElem_toArray, List.getElem_cons_zero, List.getElem_cons_succ, List.setIfInBounds_toArray, List.set_cons_zero, List.set_cons_succ]
  refine wpAnyH_take (i := 25) (oi := _) (v := ?_) rfl (by kernel_rfl) (by kernel_rfl) (by kernel_rfl) (fun _ _ _ h => h) (Or.inl ⟨by rfl, ?_⟩) (by assumption) ?_
  rotate_left
  · intro w hSw
    (try dsimp only at hSw)
    go_simp
    try with_reducible rfl
  try simp only [Act.put, List.getElem_toArray, List.getElem_cons_zero, List.getElem_cons_succ, List.setIfInBounds_toArray, List.set_cons_zero, List.set_cons_succ]
  refine wpAnyH_take (i := 22) (oi := _) (v := ?_) rfl (by kernel_rfl) (by kernel_rfl) (by kernel_rfl) (fun _ _ _ h => h) (Or.inl ⟨by rfl, ?_⟩) (by assumption) ?_
  rotate_left
  · intro w hSw
    (try dsimp only at hSw)
    go_simp
    try with_reducible rfl
  try simp only [Act.put, List.getElem_toArray, List.getElem_cons_zero, List.getElem_cons_succ, List.setIfInBounds_toArray, List.set_cons_zero, List.set_cons_succ]
  refine wpAnyH_take (i := 23) (oi := _) (v := ?_) rfl (by kernel_rfl) (by kernel_rfl) (by kernel_rfl) (fun _ _ _ h => h) (Or.inl ⟨by rfl, ?_⟩) (by assumption) ?_
  rotate_left
  · intro w hSw
    (try dsimp only at hSw)
    go_simp
    try with_reducible rfl
  try simp only [Act.put, List.getElem_toArray, List.getElem_cons_zero, List.getElem_cons_succ, List.setIfInBounds_toArray, List.set_cons_zero, List.set_cons_succ]
  refine wpAnyH_ready (rs := [26]) (by kernel_rfl) (by simp) ?_
  refine AllReadyH.cons (o := _) rfl (fun K hK => ?_) AllReadyH.nil
  go_simp
  refine hK.out _ _ (by exact HK.out _ (by iterate 8 try (first | assumption | exact belR _ | apply belDr | apply belAlloc))) (fun hHeld => ?_)
  clear hK K
  try simp only [Act.put, List.getElem_toArray, List.getElem_cons_zero, List.getElem_cons_succ, List.setIfInBounds_toArray, List.set_cons_zero, List.set_cons_succ]
  refine wpAnyH_ready (rs := [27]) (by kernel_rfl) (by simp) ?_
  refine AllReadyH.cons (o := _) rfl (fun K hK => ?_) AllReadyH.nil
  go_simp
  refine Calls.mono (refP_any _ [p0, p1] _ (by first | exact Parts.lit2 (by first | rfl | simp) (Y13.out.up (by iterate 8 try (first | assumption | exact belR _ | apply belDr | apply belAlloc))) (Y23.out.up (by iterate 8 try (first | assumption | exact belR _ | apply belDr | apply belAlloc))) | exact (Parts.lit2 (by first | rfl | simp) (Y13.out.up (by iterate 8 try (first | assumption | exact belR _ | apply belDr | apply belAlloc))) (Y23.out.up (by iterate 8 try (first | assumption | exact belR _ | apply belDr | apply belAlloc)))).drew) (by simp) (fun l hl => by rw [H32.out l hl]; decide)) ?_
  rintro e wy9 ⟨vp, rfl, OP, bp⟩
  have By9 : Below w3.heap.size w3 wy9 := belT (by iterate 8 try (first | assumption | exact belR _ | apply belDr | apply belAlloc)) bp
  try go_simp
  refine hK.out _ _ (by exact HK.out _ (by iterate 8 try (first | assumption | exact belR _ | apply belDr | apply belAlloc))) (fun hHeld => ?_)
  clear hK K
  try simp only [Act.put, List.getElem_toArray, List.getElem_cons_zero, List.getElem_cons_succ, List.setIfInBounds_toArray, List.set_cons_zero, List.set_cons_succ]
  refine wpAnyH_ready (rs := [28]) (by kernel_rfl) (by simp) ?_
  refine AllReadyH.cons (o := _) rfl (fun K hK => ?_) AllReadyH.nil
  go_simp
  refine Calls.mono (same_any _ _ (Y.P [p0, p1]) (Y.P [p0, p1]) _ (Z2.out.up (by iterate 8 try (first | assumption | exact belR _ | apply belDr | apply belAlloc))) ((OP.byt.up (by first | exact belR _ | exact belDr (belR _))) )) ?_
  rw [decide_eq_true rfl]
  rintro e wz9 ⟨rfl, dz9⟩
  have Bz9 : Below w3.heap.size w3 wz9 := belT (by iterate 8 try (first | assumption | exact belR _ | apply belDr | apply belAlloc)) (dz9.below _)
  try go_simp
  refine hK.out _ _ (by exact HK.out _ (by iterate 8 try (first | assumption | exact belR _ | apply belDr | apply belAlloc))) (fun hHeld => ?_)
  clear hK K
  try simp only [Act.put, List.getElem_toArray, List.getElem_cons_zero, List.getElem_cons_succ, List.setIfInBounds_toArray, List.set_cons_zero, List.set_cons_succ]
  refine wpAnyH_take (i := 29) (oi := _) (v := ?_) rfl (by kernel_rfl) (by kernel_rfl) (by kernel_rfl) (fun _ _ _ h => h) (Or.inl ⟨by rfl, ?_⟩) (by assumption) ?_
  rotate_left
  · intro w hSw
    (try dsimp only at hSw)
    go_simp
    try with_reducible rfl
  try simp only [Act.put, List.getElem_toArray, List.getElem_cons_zero, List.getElem_cons_succ, List.setIfInBounds_toArray, List.set_cons_zero, List.set_cons_succ]
  refine wpAnyH_take (i := 30) (oi := _) (v := ?_) rfl (by kernel_rfl) (by kernel_rfl) (by kernel_rfl) (fun _ _ _ h => h) (Or.inl ⟨by rfl, ?_⟩) (by assumption) ?_
  rotate_left
  · intro w hSw
    (try dsimp only at hSw)
    go_simp
    try with_reducible rfl
  try simp only [Act.put, List.getElem_toArray, List.getElem_cons_zero, List.getElem_cons_succ, List.setIfInBounds_toArray, List.set_cons_zero, List.set_cons_succ]
  refine wpAnyH_done (by kernel_rfl) ?_ _
  go_wp2
  go_ret
  exact ⟨rfl, belT B3 (by iterate 8 try (first | assumption | exact belR _ | apply belDr | apply belAlloc))⟩
end Go.Proofs.Ytknodcaknopcnaa
