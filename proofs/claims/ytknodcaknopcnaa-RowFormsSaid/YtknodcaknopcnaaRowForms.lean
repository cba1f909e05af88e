/- The walk of RowForms (chapter 13). True at every input. -/
import Derived.Test.YtknodcaknopcnaaRwM
import Derived.Test.YtknodcaknopcnaaWk13
import Derived.Deep.CutRange
namespace Go.Proofs.Ytknodcaknopcnaa
open Go.RowKit
set_option linter.unusedVariables false
set_option linter.unusedSimpArgs false
set_option maxRecDepth 100000
set_option maxHeartbeats 2000000

theorem wp_make_bytes {P : Program} {w : World} {o : Oper} {a : Act} {K : Act → World → Prop} {Q : Exit → Act → World → Prop}
    (l c : Operand) (t : TypeId) (hop : o.op = Op.makeSlice t l c)
    (i : TypeInfo) (h1 : P.underlying t = some (.slice 5)) (h2 : P.info? 5 = some i) (h3 : i.zero = some (.int .u8 0)) (h4 : i.size = 1) (h5 : i.bytes = 1)
    (kl kc : IntKind) (n : Nat) (hl : a.eval l = .int kl (n : Int)) (hc : a.eval c = .int kc (n : Int)) (hn : n ≤ 1048576)
    (hK : ∀ w', Own w' w.heap.size (.slice (some ⟨w.heap.size, 0, none⟩) n n) (List.replicate n 0) → Below w.heap.size w w' → K (a.put o.dst (.slice (some ⟨w.heap.size, 0, none⟩) n n)) w') :
    o.wp P a w K Q := by
  obtain ⟨w', hrun, r1, r2⟩ := run_make_full (P := P) w w.heap.size t 5 i (.int .u8 0) 1 h1 h2 h3 h4 kl kc n (by rw [h5]; omega) (by simp only [maxLen]; omega) (Nat.le_refl _)
  unfold Oper.wp
  simp [execOp, hop, hl, hc, hrun, Result.andThen]
  refine hK w' ⟨fun x hx => by rw [List.eq_of_mem_replicate hx]; decide, ?_⟩ (grown_below r2)
  rw [List.map_replicate, List.length_replicate]
  have e : (madeCells (Value.cells (.int .u8 0)) (n * 1)).toList = List.replicate n (u8v 0) := by
    rw [Nat.mul_one]; exact madeCells_one _ _
  rw [e] at r1
  exact r1

theorem go_notE {p : Prop} (h : ¬ p) : p = False := eq_false h
/-- the first k places of a row made of f, zeros behind -/
def pk (f : Nat → Nat) (k : Nat) : List Nat := (List.range 32).map (fun i => if i < k then f i else 0)
theorem pk_len (f : Nat → Nat) (k : Nat) : (pk f k).length = 32 := by simp [pk]
theorem pk_zero (f : Nat → Nat) : pk f 0 = List.replicate 32 0 := by
  apply List.ext_getElem (by simp [pk])
  intro i h1 h2
  rw [List.getElem_replicate]
  simp [pk]
theorem pk_set (f : Nat → Nat) {k : Nat} (hk : k < 32) : (pk f k).set k (f k) = pk f (k + 1) := by
  apply List.ext_getElem (by simp [pk])
  intro i h1 h2
  rw [List.getElem_set]
  by_cases h : k = i
  · subst h; rw [if_pos rfl]; simp [pk]
  · rw [if_neg h]
    simp only [pk, List.getElem_map, List.getElem_range]
    by_cases h3 : i < k
    · rw [if_pos h3, if_pos (by omega)]
    · rw [if_neg h3, if_neg (by omega)]
theorem pk_get (f : Nat → Nat) {k : Nat} (hk : k < 32) : (pk f k)[k]? = some 0 := by simp [pk, hk]
theorem P_pk {A B : List Nat} (hA : A.length = 32) (hB : B.length = 32) (hA8 : ∀ x ∈ A, x < 256) (hB8 : ∀ x ∈ B, x < 256) : pk (fun i => Y.at0 A i ^^^ Y.at0 B i) 32 = Y.P [A, B] := by
  refine Y.ext_at (n := 32) (pk_len _ _) (Y.P_len (by simp [hA, hB]) (by simp)) fun i hi => ?_
  rw [Y.P_at (n := 32) (by simp [hA, hB]) (by simp) hi]
  have e : Y.at0 (pk (fun i => Y.at0 A i ^^^ Y.at0 B i) 32) i = Y.at0 A i ^^^ Y.at0 B i := by
    show ((pk _ 32).getD i 0) = _
    rw [List.getD]
    simp [pk, hi]
  rw [e]
  show _ = (0 ^^^ G.gm (Y.at0 A i) 1) ^^^ G.gm (Y.at0 B i) 1
  rw [Nat.zero_xor, G.gm_one_right (Y.at0_byte hA8 i), G.gm_one_right (Y.at0_byte hB8 i)]
theorem Q_pk {A B : List Nat} (hA : A.length = 32) (hB : B.length = 32) (hA8 : ∀ x ∈ A, x < 256) (hB8 : ∀ x ∈ B, x < 256) : pk (fun i => Y.at0 A i ^^^ G.gm (Y.at0 B i) 2) 32 = Y.Q [A, B] := by
  refine Y.ext_at (n := 32) (pk_len _ _) (Y.Q_len (by simp [hA, hB]) (by simp)) fun i hi => ?_
  rw [Y.Q_at (n := 32) (by simp [hA, hB]) (by simp) hi]
  have e : Y.at0 (pk (fun i => Y.at0 A i ^^^ G.gm (Y.at0 B i) 2) 32) i = Y.at0 A i ^^^ G.gm (Y.at0 B i) 2 := by
    show ((pk _ 32).getD i 0) = _
    rw [List.getD]
    simp [pk, hi]
  rw [e]
  show _ = (0 ^^^ G.gm (Y.at0 A i) (G.pw 0)) ^^^ G.gm (Y.at0 B i) (G.pw 1)
  rw [show G.pw 0 = 1 by decide, show G.pw 1 = 2 by decide, Nat.zero_xor, G.gm_one_right (Y.at0_byte hA8 i)]
theorem at0_get {l : List Nat} {k x : Nat} (h : l[k]? = some x) : Y.at0 l k = x := by show l.getD k 0 = x; rw [List.getD, h]; rfl
attribute [local irreducible] Go.Calls Byt Own Parts RowB OwnD RowL
theorem rowForms_law (n : Int) (hn : -9223372036854775808 ≤ n ∧ n ≤ 9223372036854775807) (x0 : Int) (hx0 : -9223372036854775808 ≤ x0 ∧ x0 ≤ 9223372036854775807) (y0 : Int) (hy0 : -9223372036854775808 ≤ y0 ∧ y0 ≤ 9223372036854775807) (w : World) :
    Calls Try.prog 7 #[.int .i64 n, .int .i64 x0, .int .i64 y0] w fun e w' => e = .returned (.bool true) ∧ Below w.heap.size w w' := by
  obtain ⟨j0, hj, z0, z1, z2⟩ := info_parts uint8_info
  obtain ⟨m5, hm5⟩ : ∃ m5, m5 = IntKind.i64.wrap (n + 5) := ⟨_, rfl⟩
  have hm5b : -9223372036854775808 ≤ m5 ∧ m5 ≤ 9223372036854775807 := by rw [hm5, IntKind.wrap_i64]; omega
  have hm5e : IntKind.i64.wrap (n + 5) = m5 := hm5.symm
  have HM5 := Lib.hid hm5b
  have HN := Lib.hid hn
  have HX := Lib.hid (show i64b x0 from hx0)
  have HY := Lib.hid (show i64b y0 from hy0)
  obtain ⟨A, hA⟩ : ∃ A, A = secL n := ⟨_, rfl⟩
  obtain ⟨B, hB⟩ : ∃ B, B = secL m5 := ⟨_, rfl⟩
  have LA : Hid (A.length = 32) := by show _ = _; rw [hA]; exact secL_len _
  have LB : Hid (B.length = 32) := by show _ = _; rw [hB]; exact secL_len _
  have A8 : Hid (∀ x ∈ A, x < 256) := by rw [hA]; exact secL_byte _
  have B8 : Hid (∀ x ∈ B, x < 256) := by rw [hB]; exact secL_byte _
  have HAE := Lib.hid hA
  have HBE := Lib.hid hB
  have H32 : Hid (∀ p ∈ [A, B], p.length = 32) := Lib.hid (by simp [LA.out, LB.out])
  have H8 : Hid (∀ p ∈ [A, B], ∀ x ∈ p, x < 256) := Lib.hid (by simp; exact ⟨A8.out, B8.out⟩)
  have HOK : Hid (Y.okN 6 4 1) := Lib.hid (by unfold Y.okN; omega)
  have HK : Hid (∀ X, Below (w.alloc (.cells #[.int .i64 6, .int .i64 4, .int .i64 1] 42)).heap.size (w.alloc (.cells #[.int .i64 6, .int .i64 4, .int .i64 1] 42)) X → X.cell? ⟨w.heap.size, 0, none⟩ = some (.int .i64 6) ∧ X.cell? ⟨w.heap.size, 1, none⟩ = some (.int .i64 4) ∧ X.cell? ⟨w.heap.size, 2, none⟩ = some (.int .i64 1)) :=
    fun X hX => ⟨box_up hX 0 rfl, box_up hX 1 rfl, box_up hX 2 rfl⟩
  have BB : Hid (Below w.heap.size w (w.alloc (.cells #[.int .i64 6, .int .i64 4, .int .i64 1] 42))) := Lib.hid (belA1 (belR _))
  have hmn : (-9223372036854775808 ≤ n + 5) := by omega
  clear hA hB hm5 hm5b hn hx0 hy0
  go_enter Try.func7, Try.ntmps7
  go_wp2_with fail
  refine Calls.mono (sector_any n _ HN.out) ?_
  rintro e w1 ⟨v1, rfl, O1, b1⟩
  rw [← HAE.out] at O1
  go_wp2_with fail
  try rw [hm5e]
  refine Calls.mono (sector_any m5 _ HM5.out) ?_
  rintro e w2 ⟨v2, rfl, O2, b2⟩
  rw [← HBE.out] at O2
  obtain ⟨ga, ka, he1, hga1, hga2, _, _⟩ := O1.shape (by rw [LA.out]; decide)
  rw [LA.out] at he1
  subst he1
  obtain ⟨gb, kb, he2, hgb1, hgb2, hkb1, hkb2⟩ := O2.shape (by rw [LB.out]; decide)
  rw [LB.out] at he2 hkb1
  subst he2
  have YA := Lib.hid (O1.byt.up b2)
  have YB := Lib.hid O2.byt
  have BW2 := belT b1 b2
  have OA2 := Lib.hid (O1.up b2)
  have OB2 := Lib.hid O2
  have hkb31 : 31 ≤ kb := by omega
  have hkb31i : (31 : Int) ≤ (kb : Int) := by omega
  have hkbm : kb ≤ 9223372036854775807 := hkb2
  have hga3 : ga < w2.heap.size := Nat.lt_of_lt_of_le hga2 b2.size
  clear O1 O2 hga1 hga2 hgb1 b1 b2
  go_wp2_with fail
  go_cut [10, 11] from 34 (fun pv qv X => ∃ gp gq, pv = .slice (some ⟨gp, 0, none⟩) 32 32 ∧ qv = .slice (some ⟨gq, 0, none⟩) 32 32 ∧ gp ≠ gq ∧ Hid (Own X w2.heap.size (.slice (some ⟨gp, 0, none⟩) 32 32) (List.replicate 32 0)) ∧ Hid (Own X w2.heap.size (.slice (some ⟨gq, 0, none⟩) 32 32) (List.replicate 32 0)) ∧ Below w2.heap.size w2 X)
  · refine wp_region_held_drew (S := fun _ => True) (by kernel_rfl) trivial (fun hHeld => ?_)
    refine wpAnyH_ready (rs := [0, 1]) (by kernel_rfl) (by simp) ?_
    refine AllReadyH.cons (o := _) rfl (fun K hK => ?_) (AllReadyH.cons (o := _) rfl (fun K hK => ?_) AllReadyH.nil)
    · rw [if_pos (by rfl)]
      refine wp_make_bytes _ _ 22 rfl j0 Try.underlying22 hj z0 z1 z2 .i64 .i64 32 rfl rfl (by decide) ?_
      intro wm0 OM0 bm0
      have dm0 : Below w2.heap.size w2 wm0 := belT (by first | exact belR _ | exact belDr (belR _)) bm0
      have sm0 : ∃ g, Own wm0 w2.heap.size (.slice (some ⟨g, 0, none⟩) 32 32) (List.replicate 32 0) ∧ g = w2.heap.size ∧ g < wm0.heap.size := ⟨_, own_mono OM0 (by first | exact Nat.le_refl _ | exact Nat.le_refl _ | simp), by first | rfl | simp, OM0.lt _ rfl⟩
      obtain ⟨g0, OO0, hg0, hl0⟩ := sm0
      skip
      refine hK.out _ _ trivial (fun hHeld => ?_)
      clear hK K
      try simp only [Act.put, List.getElem_toArray, List.getElem_cons_zero, List.getElem_cons_succ, List.setIfInBounds_toArray, List.set_cons_zero, List.set_cons_succ]
      refine wpAnyH_take (i := 2) (oi := _) (v := ?_) rfl (by kernel_rfl) (by kernel_rfl) (by kernel_rfl) (fun _ _ _ h => h) (Or.inl ⟨by rfl, ?_⟩) (by assumption) ?_
      rotate_left
      · intro w hSw
        (try dsimp only at hSw)
        go_simp
        try with_reducible rfl
      try simp only [Act.put, List.getElem_toArray, List.getElem_cons_zero, List.getElem_cons_succ, List.setIfInBounds_toArray, List.set_cons_zero, List.set_cons_succ]
      refine wpAnyH_ready (rs := [1]) (by kernel_rfl) (by simp) ?_
      refine AllReadyH.cons (o := _) rfl (fun K hK => ?_) AllReadyH.nil
      rw [if_pos (by rfl)]
      refine wp_make_bytes _ _ 22 rfl j0 Try.underlying22 hj z0 z1 z2 .i64 .i64 32 rfl rfl (by decide) ?_
      intro wm1 OM1 bm1
      have dm1 : Below w2.heap.size w2 wm1 := belT (by first | exact dm0 | exact belDr dm0) bm1
      have sm1 : ∃ g, Own wm1 w2.heap.size (.slice (some ⟨g, 0, none⟩) 32 32) (List.replicate 32 0) ∧ g = wm0.heap.size ∧ g < wm1.heap.size := ⟨_, own_mono OM1 (by first | exact Nat.le_refl _ | exact dm0.size | simp), by first | rfl | simp, OM1.lt _ rfl⟩
      obtain ⟨g1, OO1, hg1, hl1⟩ := sm1
      skip
      refine hK.out _ _ trivial (fun hHeld => ?_)
      clear hK K
      try simp only [Act.put, List.getElem_toArray, List.getElem_cons_zero, List.getElem_cons_succ, List.setIfInBounds_toArray, List.set_cons_zero, List.set_cons_succ]
      refine wpAnyH_take (i := 3) (oi := _) (v := ?_) rfl (by kernel_rfl) (by kernel_rfl) (by kernel_rfl) (fun _ _ _ h => h) (Or.inl ⟨by rfl, ?_⟩) (by assumption) ?_
      rotate_left
      · intro w hSw
        (try dsimp only at hSw)
        go_simp
        try with_reducible rfl
      try simp only [Act.put, List.getElem_toArray, List.getElem_cons_zero, List.getElem_cons_succ, List.setIfInBounds_toArray, List.set_cons_zero, List.set_cons_succ]
      refine wpAnyH_done (by kernel_rfl) ?_ _
      go_wp2
      go_meet
      case rel =>
        subst hg0 hg1
        have U0 := OO0.up (by first | exact bm1 | exact belT (belDr (belR _)) bm1)
        refine ⟨_, _, rfl, rfl, ?_, Lib.hid ?_, Lib.hid ?_, by first | exact dm1 | exact belDr dm1⟩
        · first | omega | (simp; omega)
        · first | exact U0 | exact U0.up (belDr (belR _))
        · first | exact OO1 | exact OO1.up (belDr (belR _))
    · rw [if_pos (by rfl)]
      refine wp_make_bytes _ _ 22 rfl j0 Try.underlying22 hj z0 z1 z2 .i64 .i64 32 rfl rfl (by decide) ?_
      intro wm1 OM1 bm1
      have dm1 : Below w2.heap.size w2 wm1 := belT (by first | exact belR _ | exact belDr (belR _)) bm1
      have sm1 : ∃ g, Own wm1 w2.heap.size (.slice (some ⟨g, 0, none⟩) 32 32) (List.replicate 32 0) ∧ g = w2.heap.size ∧ g < wm1.heap.size := ⟨_, own_mono OM1 (by first | exact Nat.le_refl _ | exact Nat.le_refl _ | simp), by first | rfl | simp, OM1.lt _ rfl⟩
      obtain ⟨g1, OO1, hg1, hl1⟩ := sm1
      skip
      refine hK.out _ _ trivial (fun hHeld => ?_)
      clear hK K
      try simp only [Act.put, List.getElem_toArray, List.getElem_cons_zero, List.getElem_cons_succ, List.setIfInBounds_toArray, List.set_cons_zero, List.set_cons_succ]
      refine wpAnyH_ready (rs := [0]) (by kernel_rfl) (by simp) ?_
      refine AllReadyH.cons (o := _) rfl (fun K hK => ?_) AllReadyH.nil
      rw [if_pos (by rfl)]
      refine wp_make_bytes _ _ 22 rfl j0 Try.underlying22 hj z0 z1 z2 .i64 .i64 32 rfl rfl (by decide) ?_
      intro wm0 OM0 bm0
      have dm0 : Below w2.heap.size w2 wm0 := belT (by first | exact dm1 | exact belDr dm1) bm0
      have sm0 : ∃ g, Own wm0 w2.heap.size (.slice (some ⟨g, 0, none⟩) 32 32) (List.replicate 32 0) ∧ g = wm1.heap.size ∧ g < wm0.heap.size := ⟨_, own_mono OM0 (by first | exact Nat.le_refl _ | exact dm1.size | simp), by first | rfl | simp, OM0.lt _ rfl⟩
      obtain ⟨g0, OO0, hg0, hl0⟩ := sm0
      skip
      refine hK.out _ _ trivial (fun hHeld => ?_)
      clear hK K
      try simp only [Act.put, List.getElem_toArray, List.getElem_cons_zero, List.getElem_cons_succ, List.setIfInBounds_toArray, List.set_cons_zero, List.set_cons_succ]
      refine wpAnyH_take (i := 2) (oi := _) (v := ?_) rfl (by kernel_rfl) (by kernel_rfl) (by kernel_rfl) (fun _ _ _ h => h) (Or.inl ⟨by rfl, ?_⟩) (by assumption) ?_
      rotate_left
      · intro w hSw
        (try dsimp only at hSw)
        go_simp
        try with_reducible rfl
      try simp only [Act.put, List.getElem_toArray, List.getElem_cons_zero, List.getElem_cons_succ, List.setIfInBounds_toArray, List.set_cons_zero, List.set_cons_succ]
      refine wpAnyH_take (i := 3) (oi := _) (v := ?_) rfl (by kernel_rfl) (by kernel_rfl) (by kernel_rfl) (fun _ _ _ h => h) (Or.inl ⟨by rfl, ?_⟩) (by assumption) ?_
      rotate_left
      · intro w hSw
        (try dsimp only at hSw)
        go_simp
        try with_reducible rfl
      try simp only [Act.put, List.getElem_toArray, List.getElem_cons_zero, List.getElem_cons_succ, List.setIfInBounds_toArray, List.set_cons_zero, List.set_cons_succ]
      refine wpAnyH_done (by kernel_rfl) ?_ _
      go_wp2
      go_meet
      case rel =>
        subst hg0 hg1
        have U1 := OO1.up (by first | exact bm0 | exact belT (belDr (belR _)) bm0)
        refine ⟨_, _, rfl, rfl, ?_, Lib.hid ?_, Lib.hid ?_, by first | exact dm0 | exact belDr dm0⟩
        · first | omega | (simp; omega)
        · first | exact OO0 | exact OO0.up (belDr (belR _))
        · first | exact U1 | exact U1.up (belDr (belR _))
  obtain ⟨gp, gq, rfl, rfl, hpq, OP, OQ, B3⟩ := hcut
  have hgp : w2.heap.size ≤ gp := OP.out.ge _ rfl
  have hgq : w2.heap.size ≤ gq := OQ.out.ge _ rfl
  go_wp2_with fail
  go_loopw [38] (fun i X => ∃ k : Nat, k ≤ 32 ∧ i = .int .i64 k ∧ Hid (Own X w2.heap.size (.slice (some ⟨gp, 0, none⟩) 32 32) (pk (fun i => Y.at0 A i ^^^ Y.at0 B i) k)) ∧ Hid (Own X w2.heap.size (.slice (some ⟨gq, 0, none⟩) 32 32) (pk (fun i => Y.at0 A i ^^^ G.gm (Y.at0 B i) 2) k)) ∧ Below w2.heap.size w2 X) (fun i _ => 32 - (intOf i).toNat)
  case atStart => exact ⟨0, Nat.zero_le _, rfl, by rw [pk_zero]; exact OP, by rw [pk_zero]; exact OQ, B3⟩
  case round =>
    obtain ⟨k, hk, rfl, HP, HQ, BX⟩ := hrel
    by_cases hlt : k < 32
    · obtain ⟨x, hx⟩ : ∃ x, A[k]? = some x := ⟨_, List.getElem?_eq_getElem (by rw [LA.out]; exact hlt)⟩
      obtain ⟨y, hy⟩ : ∃ y, B[k]? = some y := ⟨_, List.getElem?_eq_getElem (by rw [LB.out]; exact hlt)⟩
      obtain ⟨hx8, hxa, _⟩ := OA2.out.cells hx
      obtain ⟨hy8, hya, _⟩ := OB2.out.cells hy
      have ex : Y.at0 A k = x := at0_get hx
      have ey : Y.at0 B k = y := at0_get hy
      have hx2 : x ^^^ y < 256 := G.xor8 hx8 hy8
      have hg8 : G.gm y 2 < 256 := G.gm_lt _ hy8
      have hq2 : x ^^^ G.gm y 2 < 256 := G.xor8 hx8 hg8
      have hbx : bits .xor .u8 (x : Int) (y : Int) = ((x ^^^ y : Nat) : Int) := bx8 hx8 hy8
      obtain ⟨z, hz⟩ : ∃ z, z = G.gm y 2 := ⟨_, rfl⟩
      have hbq : bits .xor .u8 (x : Int) (z : Int) = ((x ^^^ z : Nat) : Int) := by rw [hz]; exact bx8 hx8 hg8
      rw [← hz] at hq2
      have HZ := Lib.hid hz
      obtain ⟨_, hpc, hpf⟩ := HP.out.cells (pk_get _ hlt)
      have hs1 := HP.out.store k (x ^^^ y) hx2
      have HQ1 : Own (wr.setCell ⟨gp, k, none⟩ (.int .u8 ((x ^^^ y : Nat) : Int))) w2.heap.size (.slice (some ⟨gq, 0, none⟩) 32 32) (pk (fun i => Y.at0 A i ^^^ G.gm (Y.at0 B i) 2) k) := HQ.out.fr (Fr.cell _ _) (fun b hb e => by cases hb; exact hpq e.symm)
      obtain ⟨_, hqc, hqf⟩ := HQ1.cells (pk_get _ hlt)
      have hs2 := HQ1.store k (x ^^^ z) hq2
      have HP2 : Own ((wr.setCell ⟨gp, k, none⟩ (.int .u8 ((x ^^^ y : Nat) : Int))).setCell ⟨gq, k, none⟩ (.int .u8 ((x ^^^ z : Nat) : Int))) w2.heap.size (.slice (some ⟨gp, 0, none⟩) 32 32) ((pk (fun i => Y.at0 A i ^^^ Y.at0 B i) k).set k (x ^^^ y)) := hs1.1.fr (Fr.cell _ _) (fun b hb e => by cases hb; exact hpq e)
      have e1 : (pk (fun i => Y.at0 A i ^^^ Y.at0 B i) k).set k (x ^^^ y) = pk (fun i => Y.at0 A i ^^^ Y.at0 B i) (k + 1) := by rw [← pk_set _ hlt, ex, ey]
      have e2 : (pk (fun i => Y.at0 A i ^^^ G.gm (Y.at0 B i) 2) k).set k (x ^^^ z) = pk (fun i => Y.at0 A i ^^^ G.gm (Y.at0 B i) 2) (k + 1) := by rw [← pk_set _ hlt, ex, ey, hz]
      rw [e1] at HP2
      have HQ2 := hs2.1
      rw [e2] at HQ2
      have HP2 := Lib.hid HP2
      have HQ2 := Lib.hid HQ2
      have HKK : Hid (∀ X, Below w2.heap.size w2 X → X.cell? ⟨ga, k, none⟩ = some (.int .u8 (x : Int)) ∧ X.cell? ⟨gb, k, none⟩ = some (.int .u8 (y : Int))) := fun X hX => by
        rw [hX.cell (p := ⟨ga, k, none⟩) hga3, hX.cell (p := ⟨gb, k, none⟩) hgb2]
        exact ⟨hxa, hya⟩
      have HLT := Lib.hid hlt
      have hk0 : (0 : Int) ≤ (k : Int) := by omega
      have hk32 : (k : Int) < 32 := by omega
      have hk1' : IntKind.i64.wrap ((k : Int) + 1) = ((k + 1 : Nat) : Int) := by rw [IntKind.wrap_i64]; omega
      have HY8 := Lib.hid hy8
      clear hz hx hy hxa hya ex ey hx8 hy8 hx2 hg8 hq2 hs1 hs2 e1 e2 HQ1 hlt
      go_wp2_with fail
      refine wp_region_held_drew (S := fun X => X.cell? ⟨ga, k, none⟩ = some (.int .u8 (x : Int)) ∧ X.cell? ⟨gb, k, none⟩ = some (.int .u8 (y : Int))) (by kernel_rfl) (by exact HKK.out _ (by iterate 8 try (first | assumption | exact belR _ | apply belDr | apply belAlloc | refine Below.setCell ?_ (by show w2.heap.size ≤ gp; exact hgp) _ | refine Below.setCell ?_ (by show w2.heap.size ≤ gq; exact hgq) _))) (fun hHeld => ?_)
      refine wpAnyH_take (i := 0) (oi := _) (v := ?_) rfl (by kernel_rfl) (by kernel_rfl) (by kernel_rfl) (fun _ _ _ h => h) (Or.inl ⟨by rfl, ?_⟩) (by assumption) ?_
      rotate_left
      · intro w hSw
        (try dsimp only at hSw)
        go_simp
        try with_reducible rfl
      try simp only [Act.put, List.getElem_toArray, List.getElem_cons_zero, List.getElem_cons_succ, List.setIfInBounds_toArray, List.set_cons_zero, List.set_cons_succ]
      refine wpAnyH_take (i := 1) (oi := _) (v := ?_) rfl (by kernel_rfl) (by kernel_rfl) (by kernel_rfl) (fun _ _ _ h => h) (Or.inl ⟨by rfl, ?_⟩) (by assumption) ?_
      rotate_left
      · intro w hSw
        (try dsimp only at hSw)
        go_simp
        try with_reducible rfl
      try simp only [Act.put, List.getElem_toArray, List.getElem_cons_zero, List.getElem_cons_succ, List.setIfInBounds_toArray, List.set_cons_zero, List.set_cons_succ]
      refine wpAnyH_take (i := 2) (oi := _) (v := ?_) rfl (by kernel_rfl) (by kernel_rfl) (by kernel_rfl) (fun _ _ _ h => h) (Or.inl ⟨by rfl, ?_⟩) (by assumption) ?_
      rotate_left
      · intro w hSw
        (try dsimp only at hSw)
        go_simp
        try with_reducible rfl
      try simp only [Act.put, List.getElem_toArray, List.getElem_cons_zero, List.getElem_cons_succ, List.setIfInBounds_toArray, List.set_cons_zero, List.set_cons_succ]
      refine wpAnyH_take (i := 3) (oi := _) (v := ?_) rfl (by kernel_rfl) (by kernel_rfl) (by kernel_rfl) (fun _ _ _ h => h) (Or.inl ⟨by rfl, ?_⟩) (by assumption) ?_
      rotate_left
      · intro w hSw
        (try dsimp only at hSw)
        go_simp
        try with_reducible rfl
      try simp only [Act.put, List.getElem_toArray, List.getElem_cons_zero, List.getElem_cons_succ, List.setIfInBounds_toArray, List.set_cons_zero, List.set_cons_succ]
      refine wpAnyH_take (i := 4) (oi := _) (v := ?_) rfl (by kernel_rfl) (by kernel_rfl) (by kernel_rfl) (fun _ _ _ h => h) (Or.inl ⟨by rfl, ?_⟩) (by assumption) ?_
      rotate_left
      · intro w hSw
        (try dsimp only at hSw)
        go_simp
        try with_reducible rfl
      try simp only [Act.put, List.getElem_toArray, List.getElem_cons_zero, List.getElem_cons_succ, List.setIfInBounds_toArray, List.set_cons_zero, List.set_cons_succ]
      refine wpAnyH_take (i := 5) (oi := _) (v := ?_) rfl (by kernel_rfl) (by kernel_rfl) (by kernel_rfl) (fun _ _ _ h => h) (Or.inl ⟨by rfl, ?_⟩) (by assumption) ?_
      rotate_left
      · intro w hSw
        (try dsimp only at hSw)
        go_simp
        try with_reducible rfl
      try simp only [Act.put, List.getElem_toArray, List.getElem_cons_zero, List.getElem_cons_succ, List.setIfInBounds_toArray, List.set_cons_zero, List.set_cons_succ]
      refine wpAnyH_take (i := 8) (oi := _) (v := ?_) rfl (by kernel_rfl) (by kernel_rfl) (by kernel_rfl) (fun _ _ _ h => h) (Or.inl ⟨by rfl, ?_⟩) (by assumption) ?_
      rotate_left
      · intro w hSw
        (try dsimp only at hSw)
        go_simp
        try with_reducible rfl
      try simp only [Act.put, List.getElem_toArray, List.getElem_cons_zero, List.getElem_cons_succ, List.setIfInBounds_toArray, List.set_cons_zero, List.set_cons_succ]
      refine wpAnyH_take (i := 9) (oi := _) (v := ?_) rfl (by kernel_rfl) (by kernel_rfl) (by kernel_rfl) (fun _ _ _ h => h) (Or.inl ⟨by rfl, ?_⟩) (by assumption) ?_
      rotate_left
      · intro w hSw
        (try dsimp only at hSw)
        go_simp
        try with_reducible rfl
      try simp only [Act.put, List.getElem_toArray, List.getElem_cons_zero, List.getElem_cons_succ, List.setIfInBounds_toArray, List.set_cons_zero, List.set_cons_succ]
      refine wpAnyH_take (i := 13) (oi := _) (v := ?_) rfl (by kernel_rfl) (by kernel_rfl) (by kernel_rfl) (fun _ _ _ h => h) (Or.inl ⟨by rfl, ?_⟩) (by assumption) ?_
      rotate_left
      · intro w hSw
        (try dsimp only at hSw)
        go_simp
        try with_reducible rfl
      try simp only [Act.put, List.getElem_toArray, List.getElem_cons_zero, List.getElem_cons_succ, List.setIfInBounds_toArray, List.set_cons_zero, List.set_cons_succ]
      refine wpAnyH_take (i := 14) (oi := _) (v := ?_) rfl (by kernel_rfl) (by kernel_rfl) (by kernel_rfl) (fun _ _ _ h => h) (Or.inl ⟨by rfl, ?_⟩) (by assumption) ?_
      rotate_left
      · intro w hSw
        (try dsimp only at hSw)
        go_simp
        try with_reducible rfl
      try simp only [Act.put, List.getElem_toArray, List.getElem_cons_zero, List.getElem_cons_succ, List.setIfInBounds_toArray, List.set_cons_zero, List.set_cons_succ]
      refine wpAnyH_take (i := 17) (oi := _) (v := ?_) rfl (by kernel_rfl) (by kernel_rfl) (by kernel_rfl) (fun _ _ _ h => h) (Or.inl ⟨by rfl, ?_⟩) (by assumption) ?_
      rotate_left
      · intro w hSw
        (try dsimp only at hSw)
        go_simp
        try with_reducible rfl
      try simp only [Act.put, List.getElem_toArray, List.getElem_cons_zero, List.getElem_cons_succ, List.setIfInBounds_toArray, List.set_cons_zero, List.set_cons_succ]
      refine wpAnyH_take (i := 18) (oi := _) (v := ?_) rfl (by kernel_rfl) (by kernel_rfl) (by kernel_rfl) (fun _ _ _ h => h) (Or.inl ⟨by rfl, ?_⟩) (by assumption) ?_
      rotate_left
      · intro w hSw
        (try dsimp only at hSw)
        go_simp
        try with_reducible rfl
      try simp only [Act.put, List.getElem_toArray, List.getElem_cons_zero, List.getElem_cons_succ, List.setIfInBounds_toArray, List.set_cons_zero, List.set_cons_succ]
      refine wpAnyH_take (i := 6) (oi := _) (v := ?_) rfl (by kernel_rfl) (by kernel_rfl) (by kernel_rfl) (fun _ _ _ h => h) (Or.inl ⟨by rfl, ?_⟩) (by assumption) ?_
      rotate_left
      · intro w hSw
        (try dsimp only at hSw)
        go_simp
        try with_reducible rfl
      try simp only [Act.put, List.getElem_toArray, List.getElem_cons_zero, List.getElem_cons_succ, List.setIfInBounds_toArray, List.set_cons_zero, List.set_cons_succ]
      refine wpAnyH_take (i := 10) (oi := _) (v := ?_) rfl (by kernel_rfl) (by kernel_rfl) (by kernel_rfl) (fun _ _ _ h => h) (Or.inl ⟨by rfl, ?_⟩) (by assumption) ?_
      rotate_left
      · intro w hSw
        (try dsimp only at hSw)
        go_simp
        try with_reducible rfl
      try simp only [Act.put, List.getElem_toArray, List.getElem_cons_zero, List.getElem_cons_succ, List.setIfInBounds_toArray, List.set_cons_zero, List.set_cons_succ]
      refine wpAnyH_take (i := 15) (oi := _) (v := ?_) rfl (by kernel_rfl) (by kernel_rfl) (by kernel_rfl) (fun _ _ _ h => h) (Or.inl ⟨by rfl, ?_⟩) (by assumption) ?_
      rotate_left
      · intro w hSw
        (try dsimp only at hSw)
        go_simp
        try with_reducible rfl
      try simp only [Act.put, List.getElem_toArray, List.getElem_cons_zero, List.getElem_cons_succ, List.setIfInBounds_toArray, List.set_cons_zero, List.set_cons_succ]
      refine wpAnyH_take (i := 19) (oi := _) (v := ?_) rfl (by kernel_rfl) (by kernel_rfl) (by kernel_rfl) (fun _ _ _ h => h) (Or.inl ⟨by rfl, ?_⟩) (by assumption) ?_
      rotate_left
      · intro w hSw
        (try dsimp only at hSw)
        go_simp
        try with_reducible rfl
      try simp only [Act.put, List.getElem_toArray, List.getElem_cons_zero, List.getElem_cons_succ, List.setIfInBounds_toArray, List.set_cons_zero, List.set_cons_succ]
      refine wpAnyH_take (i := 7) (oi := _) (v := ?_) rfl (by kernel_rfl) (by kernel_rfl) (by kernel_rfl) (fun _ _ _ h => h) (Or.inl ⟨by rfl, ?_⟩) (by assumption) ?_
      rotate_left
      · intro w hSw
        (try dsimp only at hSw)
        go_simp
        try with_reducible rfl
      try simp only [Act.put, List.getElem_toArray, List.getElem_cons_zero, List.getElem_cons_succ, List.setIfInBounds_toArray, List.set_cons_zero, List.set_cons_succ]
      refine wpAnyH_take (i := 11) (oi := _) (v := ?_) rfl (by kernel_rfl) (by kernel_rfl) (by kernel_rfl) (fun _ _ _ h => h) (Or.inl ⟨by rfl, ?_⟩) (by assumption) ?_
      rotate_left
      · intro w hSw
        (try dsimp only at hSw)
        go_simp
        try with_reducible rfl
      try simp only [Act.put, List.getElem_toArray, List.getElem_cons_zero, List.getElem_cons_succ, List.setIfInBounds_toArray, List.set_cons_zero, List.set_cons_succ]
      refine wpAnyH_take (i := 16) (oi := _) (v := ?_) rfl (by kernel_rfl) (by kernel_rfl) (by kernel_rfl) (fun _ _ _ h => h) (Or.inl ⟨by rfl, ?_⟩) (by assumption) ?_
      rotate_left
      · intro w hSw
        (try dsimp only at hSw)
        go_simp
        try with_reducible rfl
      try simp only [Act.put, List.getElem_toArray, List.getElem_cons_zero, List.getElem_cons_succ, List.setIfInBounds_toArray, List.set_cons_zero, List.set_cons_succ]
      refine wpAnyH_take (i := 20) (oi := _) (v := ?_) rfl (by kernel_rfl) (by kernel_rfl) (by kernel_rfl) (fun _ _ _ h => h) (Or.inl ⟨by rfl, ?_⟩) (by assumption) ?_
      rotate_left
      · intro w hSw
        (try dsimp only at hSw)
        go_simp
        try with_reducible rfl
      try simp only [Act.put, List.getElem_toArray, List.getElem_cons_zero, List.getElem_cons_succ, List.setIfInBounds_toArray, List.set_cons_zero, List.set_cons_succ]
      refine wpAnyH_take (i := 12) (oi := _) (v := ?_) rfl (by kernel_rfl) (by kernel_rfl) (by kernel_rfl) (fun _ _ _ h => h) (Or.inl ⟨by rfl, ?_⟩) (by assumption) ?_
      rotate_left
      · intro w hSw
        (try dsimp only at hSw)
        go_simp
        try with_reducible rfl
      try simp only [Act.put, List.getElem_toArray, List.getElem_cons_zero, List.getElem_cons_succ, List.setIfInBounds_toArray, List.set_cons_zero, List.set_cons_succ]
      refine wpAnyH_ready (rs := [21]) (by kernel_rfl) (by simp) ?_
      refine AllReadyH.cons (o := _) rfl (fun K hK => ?_) AllReadyH.nil
      go_simp
      refine Calls.mono (refmul_any y 2 _ HY8.out (by decide)) ?_
      rw [← HZ.out]
      rintro e w9 ⟨rfl, rfl⟩
      try go_simp
      refine hK.out _ _ (by exact HKK.out _ (by iterate 8 try (first | assumption | exact belR _ | apply belDr | apply belAlloc | refine Below.setCell ?_ (by show w2.heap.size ≤ gp; exact hgp) _ | refine Below.setCell ?_ (by show w2.heap.size ≤ gq; exact hgq) _))) (fun hHeld => ?_)
      clear hK K
      try simp only [Act.put, List.getElem_toArray, List.getElem_cons_zero, List.getElem_cons_succ, List.setIfInBounds_toArray, List.set_cons_zero, List.set_cons_succ]
      refine wpAnyH_take (i := 22) (oi := _) (v := ?_) rfl (by kernel_rfl) (by kernel_rfl) (by kernel_rfl) (fun _ _ _ h => h) (Or.inl ⟨by rfl, ?_⟩) (by assumption) ?_
      rotate_left
      · intro w hSw
        (try dsimp only at hSw)
        go_simp
        try with_reducible rfl
      try simp only [Act.put, List.getElem_toArray, List.getElem_cons_zero, List.getElem_cons_succ, List.setIfInBounds_toArray, List.set_cons_zero, List.set_cons_succ]
      refine wpAnyH_take (i := 23) (oi := _) (v := ?_) rfl (by kernel_rfl) (by kernel_rfl) (by kernel_rfl) (fun _ _ _ h => h) (Or.inl ⟨by rfl, ?_⟩) (by assumption) ?_
      rotate_left
      · intro w hSw
        (try dsimp only at hSw)
        go_simp
        try with_reducible rfl
      try simp only [Act.put, List.getElem_toArray, List.getElem_cons_zero, List.getElem_cons_succ, List.setIfInBounds_toArray, List.set_cons_zero, List.set_cons_succ]
      refine wpAnyH_ready (rs := [24]) (by kernel_rfl) (by simp) ?_
      refine AllReadyH.cons (o := _) rfl (fun K hK => ?_) AllReadyH.nil
      go_simp
      refine hK.out _ _ (by exact HKK.out _ (by iterate 8 try (first | assumption | exact belR _ | apply belDr | apply belAlloc | refine Below.setCell ?_ (by show w2.heap.size ≤ gp; exact hgp) _ | refine Below.setCell ?_ (by show w2.heap.size ≤ gq; exact hgq) _))) (fun hHeld => ?_)
      clear hK K
      try simp only [Act.put, List.getElem_toArray, List.getElem_cons_zero, List.getElem_cons_succ, List.setIfInBounds_toArray, List.set_cons_zero, List.set_cons_succ]
      refine wpAnyH_take (i := 25) (oi := _) (v := ?_) rfl (by kernel_rfl) (by kernel_rfl) (by kernel_rfl) (fun _ _ _ h => h) (Or.inl ⟨by rfl, ?_⟩) (by assumption) ?_
      rotate_left
      · intro w hSw
        (try dsimp only at hSw)
        go_simp
        try with_reducible rfl
      try simp only [Act.put, List.getElem_toArray, List.getElem_cons_zero, List.getElem_cons_succ, List.setIfInBounds_toArray, List.set_cons_zero, List.set_cons_succ]
      refine wpAnyH_ready (rs := [26]) (by kernel_rfl) (by simp) ?_
      refine AllReadyH.cons (o := _) rfl (fun K hK => ?_) AllReadyH.nil
      go_simp
      refine hK.out _ _ (by exact HKK.out _ (by iterate 8 try (first | assumption | exact belR _ | apply belDr | apply belAlloc | refine Below.setCell ?_ (by show w2.heap.size ≤ gp; exact hgp) _ | refine Below.setCell ?_ (by show w2.heap.size ≤ gq; exact hgq) _))) (fun hHeld => ?_)
      clear hK K
      try simp only [Act.put, List.getElem_toArray, List.getElem_cons_zero, List.getElem_cons_succ, List.setIfInBounds_toArray, List.set_cons_zero, List.set_cons_succ]
      refine wpAnyH_done (by kernel_rfl) ?_ _
      go_wp2
      go_roundw
      case rel => exact ⟨k + 1, HLT.out, by go_num, by first | exact HP2 | exact Lib.hid (HP2.out.up (belDr (belR _))), by first | exact HQ2 | exact Lib.hid (HQ2.out.up (belDr (belR _))), (by iterate 8 try (first | assumption | exact belR _ | apply belDr | apply belAlloc | refine Below.setCell ?_ (by show w2.heap.size ≤ gp; exact hgp) _ | refine Below.setCell ?_ (by show w2.heap.size ≤ gq; exact hgq) _))⟩
      case measure => have := HLT.out; simp [intOf]; omega
    · have hkB : decide ((k : Int) < 32) = false := by rw [decide_eq_false_iff_not]; omega
      have hkP : ((k : Int) < 32) = False := by rw [eq_iff_iff]; exact ⟨fun h => by omega, fun h => h.elim⟩
      have ek : k = 32 := by omega
      rw [ek, P_pk LA.out LB.out A8.out B8.out] at HP
      rw [ek, Q_pk LA.out LB.out A8.out B8.out] at HQ
      have YP := Lib.hid HP.out.byt
      have YQ := Lib.hid HQ.out.byt
      have YA3 := Lib.hid (YA.out.up BX)
      have YB3 := Lib.hid (YB.out.up BX)
      have B4 := belT BW2 BX
      clear ek hlt hk HP HQ OP OQ OA2 OB2
      go_wp2_with fail
      obtain ⟨w5, hw5⟩ : ∃ w5 : World, w5 = ((wr.alloc (.cells #[.slice (some ⟨gq, 0, none⟩) 32 32, .slice (some ⟨ga, 0, none⟩) 32 ka, .slice (some ⟨gb, 0, none⟩) 32 kb, .slice (some ⟨gp, 0, none⟩) 32 32] 22)).alloc (.cells #[.slice (some ⟨ga, 0, none⟩) 32 ka, .slice (some ⟨gb, 0, none⟩) 32 kb, .slice (some ⟨gp, 0, none⟩) 32 32, .slice (some ⟨gq, 0, none⟩) 32 32] 22)).alloc (.cells #[.slice (some ⟨wr.heap.size, 0, none⟩) 4 4, .slice (some ⟨wr.heap.size + 1, 0, none⟩) 4 4] 25) := ⟨_, rfl⟩
      have BR5 : Below wr.heap.size wr w5 := by rw [hw5]; exact belA3 (belR _)
      have hs5 : w5.heap.size = wr.heap.size + 1 + 1 + 1 := by rw [hw5]; simp
      have F0 : Y.fillL 6 4 1 0 [A, B] = [Y.Q [A, B], A, B, Y.P [A, B]] := by simp [Y.fillL, Y.fillP, Y.fillA, Y.off, Y.pd, List.replicate, List.getD]
      have F1 : Y.fillL 6 4 1 1 [A, B] = [A, B, Y.P [A, B], Y.Q [A, B]] := by simp [Y.fillL, Y.fillP, Y.fillA, Y.off, Y.pd, List.replicate, List.getD]
      have P0 : Parts w5 (.slice (some ⟨wr.heap.size, 0, none⟩) 4 4) [Y.Q [A, B], A, B, Y.P [A, B]] := by
        rw [hw5]
        exact (Parts.lit4 rfl YQ.out YA3.out YB3.out YP.out).up (belA2 (belR _))
      have P1 : Parts w5 (.slice (some ⟨wr.heap.size + 1, 0, none⟩) 4 4) [A, B, Y.P [A, B], Y.Q [A, B]] := by
        rw [hw5]
        exact (Parts.lit4 (by simp) (YA3.out.up (belA1 (belR _))) (YB3.out.up (belA1 (belR _))) (YP.out.up (belA1 (belR _))) (YQ.out.up (belA1 (belR _)))).up (belA1 (belR _))
      have hcell : ∀ i, w5.cell? ⟨wr.heap.size + 1 + 1, i, none⟩ = (#[Value.slice (some ⟨wr.heap.size, 0, none⟩) 4 4, .slice (some ⟨wr.heap.size + 1, 0, none⟩) 4 4] : Array Value)[i]? := by
        intro i
        rw [hw5]
        have := cell_of_row (((wr.alloc (.cells #[.slice (some ⟨gq, 0, none⟩) 32 32, .slice (some ⟨ga, 0, none⟩) 32 ka, .slice (some ⟨gb, 0, none⟩) 32 kb, .slice (some ⟨gp, 0, none⟩) 32 32] 22)).alloc (.cells #[.slice (some ⟨ga, 0, none⟩) 32 ka, .slice (some ⟨gb, 0, none⟩) 32 kb, .slice (some ⟨gp, 0, none⟩) 32 32, .slice (some ⟨gq, 0, none⟩) 32 32] 22)).alloc (.cells #[.slice (some ⟨wr.heap.size, 0, none⟩) 4 4, .slice (some ⟨wr.heap.size + 1, 0, none⟩) 4 4] 25)) _ i _ _ _ (heap_alloc_new _ _)
        rw [← this]
        simp
      have HT : Hid (∀ k, k < 2 → ∃ gk, w5.cell? ⟨wr.heap.size + 1 + 1, k, none⟩ = some (.slice (some ⟨gk, 0, none⟩) 4 4) ∧ Parts w5 (.slice (some ⟨gk, 0, none⟩) 4 4) (Y.fillL 6 4 1 k [A, B])) := by
        intro k hk
        have hk' : k = 0 ∨ k = 1 := by omega
        rcases hk' with rfl | rfl
        · exact ⟨wr.heap.size, by rw [hcell]; rfl, by rw [F0]; exact P0⟩
        · exact ⟨wr.heap.size + 1, by rw [hcell]; rfl, by rw [F1]; exact P1⟩
      have htb : wr.heap.size + 1 + 1 < w5.heap.size := by rw [hs5]; omega
      have B5 := belT B4 BR5
      have YA5 := Lib.hid (YA3.out.up BR5)
      have YB5 := Lib.hid (YB3.out.up BR5)
      have YP5 := Lib.hid (YP.out.up BR5)
      have YQ5 := Lib.hid (YQ.out.up BR5)
      rw [← hw5]
      obtain ⟨tb, htbe⟩ : ∃ tb, tb = wr.heap.size + 1 + 1 := ⟨_, rfl⟩
      rw [← htbe] at HT htb ⊢
      have HTB := Lib.hid htb
      clear hw5 hs5 F0 F1 P0 P1 hcell htb htbe BR5 YA3 YB3 YP YQ B4
      go_loopw [79] (fun i X => ∃ k : Nat, k ≤ 2 ∧ i = .int .i64 k ∧ Below w5.heap.size w5 X) (fun i _ => 2 - (intOf i).toNat)
      case atStart => exact ⟨0, Nat.zero_le _, rfl, belR _⟩
      case round =>
        obtain ⟨k, hk, rfl, BX5⟩ := hrel
        by_cases hlt : k < 2
        · obtain ⟨gk, hgk, PW⟩ := HT.out k hlt
          have hgkc : wr.cell? ⟨tb, k, none⟩ = some (.slice (some ⟨gk, 0, none⟩) 4 4) := by rw [BX5.cell (p := ⟨tb, k, none⟩) HTB.out]; exact hgk
          have HPW := Lib.hid (PW.up BX5)
          have HLT := Lib.hid hlt
          have hk0 : (0 : Int) ≤ (k : Int) := by omega
          have hk2 : (k : Int) < 2 := by omega
          have hk1' : IntKind.i64.wrap ((k : Int) + 1) = ((k + 1 : Nat) : Int) := by rw [IntKind.wrap_i64]; omega
          obtain ⟨c0, c1, c2⟩ := HK.out _ (belT B5 BX5)
          clear hlt hgk PW
          go_wp2_with fail
          refine Calls.mono (fill_any 6 4 1 k _ [A, B] _ HOK.out (by have := HLT.out; omega) (Parts.lit2 (by first | rfl | simp) (YA5.out.up BX5) (YB5.out.up BX5)) rfl H32.out) ?_
          rintro e w6 ⟨v6, rfl, O6, b6⟩
          have B6 := belT BX5 (belT (belA1 (belR _)) b6)
          have hFl : (Y.fillL 6 4 1 k [A, B]).length = 4 := Y.fillL_len _ _ _ _ _
          obtain ⟨g6, k6, he6, hg61, hg62, _, _⟩ := O6.toB.shape (by rw [hFl]; decide)
          rw [hFl] at he6
          subst he6
          have hF32 := Y.fillL_32 (r := k) HOK.out (data := [A, B]) rfl H32.out
          have hTF := Y.take_fill (r := k) HOK.out (data := [A, B]) rfl
          have hRW : Y.rightB 6 4 1 k (Y.fillL 6 4 1 k [A, B]) = true := by rw [Y.right_whole HOK.out hFl hF32, hTF]; exact decide_eq_true rfl
          have hNE : ∀ i, i < 4 → (Y.fillL 6 4 1 k [A, B]).getD i [] ≠ [] := fun i hi => Y.fill_ne HOK.out rfl H32.out hi
          have hLost := Y.Lost.refl hFl
          have hTB := fun rows hl M hM hMl => Y.take_back (r := k) (rows := rows) HOK.out (data := [A, B]) rfl H32.out H8.out hl M hM hMl
          obtain ⟨FL, hFLe⟩ : ∃ FL, FL = Y.fillL 6 4 1 k [A, B] := ⟨_, rfl⟩
          rw [← hFLe] at O6 HPW hFl hRW hNE hLost hTB
          have HO6 := Lib.hid O6
          have HFL := Lib.hid hFl
          have HRW := Lib.hid hRW
          have HNE := Lib.hid hNE
          have HLO := Lib.hid hLost
          have HTBK := Lib.hid hTB
          have hg63 : w5.heap.size ≤ g6 := by refine Nat.le_trans ?_ hg61; exact (belT BX5 (belA1 (belR _))).size
          clear c0 c1 c2 O6 hFl hRW hNE hLost hTB hF32 hTF hgkc hFLe hg61
          go_wp2_with fail
          refine Calls.mono (same13_any _ _ FL FL _ HO6.out.parts (HPW.out.up (belT (belA1 (belR _)) b6))) ?_
          rw [decide_eq_true rfl]
          rintro e w7 ⟨rfl, b7⟩
          have B7 := belT B6 b7
          obtain ⟨c0, c1, c2⟩ := HK.out _ (belT B5 B7)
          go_wp2_with fail
          refine Calls.mono (right_any 6 4 1 k _ FL _ HOK.out (by have := HLT.out; omega) (HO6.out.parts.up b7) HFL.out) ?_
          rw [HRW.out]
          rintro e w8 ⟨rfl, b8⟩
          have B8 := belT B7 b8
          clear c0 c1 c2
          go_wp2_with fail
          refine Calls.mono (within_ex x0 4 _ (by decide) (by decide) HX.out) ?_
          rintro e w9 ⟨x, rfl, hx, rfl⟩
          go_wp2_with fail
          refine Calls.mono (within_ex y0 4 _ (by decide) (by decide) HY.out) ?_
          rintro e w9 ⟨y, rfl, hy, rfl⟩
          have hx0 : (0 : Int) ≤ (x : Int) := by omega
          have hy0 : (0 : Int) ≤ (y : Int) := by omega
          have hx4 : x < 4 := by omega
          have hy4 : y < 4 := by omega
          have RB8 := Lib.hid (HO6.out.toB.up (belT b7 b8))
          obtain ⟨cz, pz, hcz, hfz, _⟩ := RB8.out.get (k := x) (by rw [HFL.out]; exact hx4)
          have q1 := Lib.hid (RowB.put RB8.out (k := x) (c := .slice none 0 0) (p := []) (by rw [HFL.out]; exact hx4) (Byt.nil _) (.inl rfl))
          obtain ⟨cy, py, hcy, hfy, _⟩ := q1.out.get (k := y) (by rw [List.length_set, HFL.out]; exact hy4)
          have q2 := Lib.hid (RowB.put q1.out (k := y) (c := .slice none 0 0) (p := []) (by rw [List.length_set, HFL.out]; exact hy4) (Byt.nil _) (.inl rfl))
          have B9 : Below w5.heap.size w5 ((w8.setCell ⟨g6, x, none⟩ (.slice none 0 0)).setCell ⟨g6, y, none⟩ (.slice none 0 0)) := (B8.setCell (by show w5.heap.size ≤ g6; exact hg63) _).setCell (by show w5.heap.size ≤ g6; exact hg63) _
          have hL2 := (HLO.out.set x).set y
          have hTB := HTBK.out _ hL2 [x, y] (fun i hi he => by
            have e1 := hL2.2 i hi
            rw [Y.getD_set _ _ _ _ (by rw [List.length_set, HFL.out]; exact hi), Y.getD_set _ _ _ _ (by rw [HFL.out]; exact hi)] at he
            by_cases h1 : y = i
            · simp [h1]
            · rw [if_neg h1] at he
              by_cases h2 : x = i
              · simp [h2]
              · rw [if_neg h2] at he
                exact absurd he (HNE.out i hi)) (by simp)
          have HTB2 := Lib.hid hTB
          obtain ⟨c0, c1, c2⟩ := HK.out _ (belT B5 B9)
          clear hL2 hTB hx hy
          go_wp2_with fail
          refine Calls.mono (take_any 6 4 1 k _ ((FL.set x []).set y []) _ HOK.out (by have := HLT.out; omega) q2.out.parts (by rw [List.length_set, List.length_set, HFL.out])) ?_
          rintro e w10 ⟨hs, b10⟩
          rcases hs with ⟨_, v10, rfl, RB⟩ | ⟨h, _⟩
          case inr => rw [HTB2.out.1] at h; cases h
          rw [HTB2.out.2] at RB
          obtain ⟨a10, k10, rfl, _, _⟩ := RB.parts.shape
          have HRB := Lib.hid RB
          have B10 := belT B9 b10
          clear RB c0 c1 c2 hcz hfz hcy hfy
          dsimp only [List.length_cons, List.length_nil] at *
          go_wp2_with fail
          refine Calls.mono (same13_any _ _ [A, B] [A, B] _ (HRB.out.parts.up (belA1 (belR _))) (Parts.lit2 (by first | rfl | simp) (YA5.out.up B10) (YB5.out.up B10))) ?_
          rw [decide_eq_true rfl]
          rintro e w11 ⟨rfl, b11⟩
          go_wp2
          go_roundw
          case rel => exact ⟨k + 1, HLT.out, by go_num, belT B10 (belT (belA1 (belR _)) b11)⟩
          case measure => have := HLT.out; simp [intOf]; omega
        · have hkB2 : decide ((k : Int) < 2) = false := by rw [decide_eq_false_iff_not]; omega
          have hkP2 : ((k : Int) < 2) = False := by rw [eq_iff_iff]; exact ⟨fun h => by omega, fun h => h.elim⟩
          obtain ⟨c0, c1, c2⟩ := HK.out _ (belT B5 BX5)
          clear hlt hk HT
          go_wp2_with fail
          refine Calls.mono (fill_no 6 4 1 16 _ [A, B] _ HOK.out (Parts.lit2 (by first | rfl | simp) (YA5.out.up BX5) (YB5.out.up BX5)) (.inl (by omega))) ?_
          rintro e w6 ⟨rfl, b6⟩
          have B6 := belT BX5 (belT (belA1 (belR _)) b6)
          clear c0 c1 c2
          obtain ⟨c0, c1, c2⟩ := HK.out _ (belT B5 B6)
          go_wp2_with fail
          refine Calls.mono (fill_no 6 4 1 0 _ [A] _ HOK.out (Parts.lit1 (by first | rfl | simp) (YA5.out.up B6)) (.inr (.inl (by simp)))) ?_
          rintro e w7 ⟨rfl, b7⟩
          have B7 := belT B6 (belT (belA1 (belR _)) b7)
          clear c0 c1 c2
          obtain ⟨c0, c1, c2⟩ := HK.out _ (belT B5 B7)
          have HK7 : Hid (∀ X, Below w7.heap.size w7 X → X.cell? ⟨w.heap.size, 0, none⟩ = some (.int .i64 6) ∧ X.cell? ⟨w.heap.size, 1, none⟩ = some (.int .i64 4) ∧ X.cell? ⟨w.heap.size, 2, none⟩ = some (.int .i64 1)) := fun X hX => HK.out _ (belT B5 (belT B7 hX))
          have YBt : Hid (Byt w7 (.slice (some ⟨gb, 0, none⟩) 31 kb) (B.take 31)) := Lib.hid ((YB5.out.up B7).take (by decide) hkb31 (by simp only [maxLen]; exact hkbm))
          have YA7 := Lib.hid (YA5.out.up B7)
          have hbad : [A, B.take 31].any badB = true := by
            have : badB (B.take 31) = true := by unfold badB; rw [List.length_take, LB.out]; decide
            simp [this]
          have HBAD := Lib.hid hbad
          clear hbad
          go_wp2_with fail
          refine wp_region_held_drew (S := fun X => X.cell? ⟨w.heap.size, 0, none⟩ = some (.int .i64 6) ∧ X.cell? ⟨w.heap.size, 1, none⟩ = some (.int .i64 4) ∧ X.cell? ⟨w.heap.size, 2, none⟩ = some (.int .i64 1)) (by kernel_rfl) (by exact HK7.out _ (by iterate 8 try (first | assumption | exact belR _ | apply belDr | apply belAlloc))) (fun hHeld => ?_)
          refine wpAnyH_take (i := 0) (oi := _) (v := ?_) rfl (by kernel_rfl) (by kernel_rfl) (by kernel_rfl) (fun _ _ _ h => h) (Or.inl ⟨by rfl, ?_⟩) (by assumption) ?_
          rotate_left
          · intro w hSw
            (try dsimp only at hSw)
            go_simp
            try with_reducible rfl
          try simp only [Act.put, List.getElem_toArray, List.getElem_cons_zero, List.getElem_cons_succ, List.setIfInBounds_toArray, List.set_cons_zero, List.set_cons_succ]
          refine wpAnyH_take (i := 1) (oi := _) (v := ?_) rfl (by kernel_rfl) (by kernel_rfl) (by kernel_rfl) (fun _ _ _ h => h) (Or.inl ⟨by rfl, ?_⟩) (by assumption) ?_
          rotate_left
          · intro w hSw
            (try dsimp only at hSw)
            go_simp
            try with_reducible rfl
          try simp only [Act.put, List.getElem_toArray, List.getElem_cons_zero, List.getElem_cons_succ, List.setIfInBounds_toArray, List.set_cons_zero, List.set_cons_succ]
          refine wpAnyH_take (i := 2) (oi := _) (v := ?_) rfl (by kernel_rfl) (by kernel_rfl) (by kernel_rfl) (fun _ _ _ h => h) (Or.inl ⟨by rfl, ?_⟩) (by assumption) ?_
          rotate_left
          · intro w hSw
            (try dsimp only at hSw)
            go_simp
            try with_reducible rfl
          try simp only [Act.put, List.getElem_toArray, List.getElem_cons_zero, List.getElem_cons_succ, List.setIfInBounds_toArray, List.set_cons_zero, List.set_cons_succ]
          refine wpAnyH_take (i := 3) (oi := _) (v := ?_) rfl (by kernel_rfl) (by kernel_rfl) (by kernel_rfl) (fun _ _ _ h => h) (Or.inl ⟨by rfl, ?_⟩) (by assumption) ?_
          rotate_left
          · intro w hSw
            (try dsimp only at hSw)
            go_simp
            try with_reducible rfl
          try simp only [Act.put, List.getElem_toArray, List.getElem_cons_zero, List.getElem_cons_succ, List.setIfInBounds_toArray, List.set_cons_zero, List.set_cons_succ]
          refine wpAnyH_ready (rs := [4]) (by kernel_rfl) (by simp) ?_
          refine AllReadyH.cons (o := _) rfl (fun K hK => ?_) AllReadyH.nil
          go_simp
          refine hK.out _ _ (by exact HK7.out _ (by iterate 8 try (first | assumption | exact belR _ | apply belDr | apply belAlloc))) (fun hHeld => ?_)
          clear hK K
          try simp only [Act.put, List.getElem_toArray, List.getElem_cons_zero, List.getElem_cons_succ, List.setIfInBounds_toArray, List.set_cons_zero, List.set_cons_succ]
          refine wpAnyH_ready (rs := [5]) (by kernel_rfl) (by simp) ?_
          refine AllReadyH.cons (o := _) rfl (fun K hK => ?_) AllReadyH.nil
          go_simp
          refine Calls.mono (fill_no 6 4 1 0 _ [A, B.take 31] _ HOK.out (by first | exact Parts.lit2 (by first | rfl | simp) (YA7.out.up (by iterate 8 try (first | assumption | exact belR _ | apply belDr | apply belAlloc))) (YBt.out.up (by iterate 8 try (first | assumption | exact belR _ | apply belDr | apply belAlloc))) | exact (Parts.lit2 (by first | rfl | simp) (YA7.out.up (by iterate 8 try (first | assumption | exact belR _ | apply belDr | apply belAlloc))) (YBt.out.up (by iterate 8 try (first | assumption | exact belR _ | apply belDr | apply belAlloc)))).drew) (.inr (.inr HBAD.out))) ?_
          rintro e w8 ⟨rfl, b8⟩
          have B8 : Below w7.heap.size w7 w8 := belT (by iterate 8 try (first | assumption | exact belR _ | apply belDr | apply belAlloc)) b8
          try go_simp
          refine hK.out _ _ (by exact HK7.out _ (by iterate 8 try (first | assumption | exact belR _ | apply belDr | apply belAlloc))) (fun hHeld => ?_)
          clear hK K
          try simp only [Act.put, List.getElem_toArray, List.getElem_cons_zero, List.getElem_cons_succ, List.setIfInBounds_toArray, List.set_cons_zero, List.set_cons_succ]
          refine wpAnyH_take (i := 6) (oi := _) (v := ?_) rfl (by kernel_rfl) (by kernel_rfl) (by kernel_rfl) (fun _ _ _ h => h) (Or.inl ⟨by rfl, ?_⟩) (by assumption) ?_
          rotate_left
          · intro w hSw
            (try dsimp only at hSw)
            go_simp
            try with_reducible rfl
          try simp only [Act.put, List.getElem_toArray, List.getElem_cons_zero, List.getElem_cons_succ, List.setIfInBounds_toArray, List.set_cons_zero, List.set_cons_succ]
          refine wpAnyH_take (i := 7) (oi := _) (v := ?_) rfl (by kernel_rfl) (by kernel_rfl) (by kernel_rfl) (fun _ _ _ h => h) (Or.inl ⟨by rfl, ?_⟩) (by assumption) ?_
          rotate_left
          · intro w hSw
            (try dsimp only at hSw)
            go_simp
            try with_reducible rfl
          try simp only [Act.put, List.getElem_toArray, List.getElem_cons_zero, List.getElem_cons_succ, List.setIfInBounds_toArray, List.set_cons_zero, List.set_cons_succ]
          refine wpAnyH_take (i := 8) (oi := _) (v := ?_) rfl (by kernel_rfl) (by kernel_rfl) (by kernel_rfl) (fun _ _ _ h => h) (Or.inl ⟨by rfl, ?_⟩) (by assumption) ?_
          rotate_left
          · intro w hSw
            (try dsimp only at hSw)
            go_simp
            try with_reducible rfl
          try simp only [Act.put, List.getElem_toArray, List.getElem_cons_zero, List.getElem_cons_succ, List.setIfInBounds_toArray, List.set_cons_zero, List.set_cons_succ]
          refine wpAnyH_take (i := 9) (oi := _) (v := ?_) rfl (by kernel_rfl) (by kernel_rfl) (by kernel_rfl) (fun _ _ _ h => h) (Or.inl ⟨by rfl, ?_⟩) (by assumption) ?_
          rotate_left
          · intro w hSw
            (try dsimp only at hSw)
            go_simp
            try with_reducible rfl
          try simp only [Act.put, List.getElem_toArray, List.getElem_cons_zero, List.getElem_cons_succ, List.setIfInBounds_toArray, List.set_cons_zero, List.set_cons_succ]
          refine wpAnyH_take (i := 10) (oi := _) (v := ?_) rfl (by kernel_rfl) (by kernel_rfl) (by kernel_rfl) (fun _ _ _ h => h) (Or.inl ⟨by rfl, ?_⟩) (by assumption) ?_
          rotate_left
          · intro w hSw
            (try dsimp only at hSw)
            go_simp
            try with_reducible rfl
          try simp only [Act.put, List.getElem_toArray, List.getElem_cons_zero, List.getElem_cons_succ, List.setIfInBounds_toArray, List.set_cons_zero, List.set_cons_succ]
          refine wpAnyH_done (by kernel_rfl) ?_ _
          clear c0 c1 c2
          have B9 := belT B7 (show Below w7.heap.size w7 _ from (by iterate 8 try (first | assumption | exact belR _ | apply belDr | apply belAlloc)))
          obtain ⟨c0, c1, c2⟩ := HK.out _ (belT B5 B9)
          go_wp2_with fail
          refine Calls.mono (take_no 6 4 1 0 _ [Y.Q [A, B], A, B] _ HOK.out (by decide) (Parts.lit3 (by first | rfl | simp) (YQ5.out.up B9) (YA5.out.up B9) (YB5.out.up B9)) (by simp)) ?_
          rintro e wa ⟨rfl, ba⟩
          have Ba := belT B9 (belT (belA1 (belR _)) ba)
          clear c0 c1 c2
          obtain ⟨c0, c1, c2⟩ := HK.out _ (belT B5 Ba)
          go_wp2_with fail
          refine Calls.mono (take_any 6 4 1 0 _ [[], [], [], Y.P [A, B]] _ HOK.out (by decide) (Parts.lit4 (by first | rfl | simp) (Byt.nil _) (Byt.nil _) (Byt.nil _) (YP5.out.up Ba)) rfl) ?_
          rintro e wb ⟨hs, bb⟩
          rcases hs with ⟨h, _⟩ | ⟨_, rfl⟩
          case inl =>
            have e : Y.solveB ((32 : Nat) : Int) (Y.pOf 4 1 0 [[], [], [], Y.P [A, B]]) (Y.qOf 6 4 1 0 [[], [], [], Y.P [A, B]]) (Y.takeL 6 4 1 0 [[], [], [], Y.P [A, B]]) = false := by
              have e1 : Y.takeL 6 4 1 0 [[], [], [], Y.P [A, B]] = [[], []] := by simp [Y.takeL, Y.off, Y.pd, List.range, List.range.loop]
              have e2 : Y.qOf 6 4 1 0 [[], [], [], Y.P [A, B]] = [] := by simp [Y.qOf, Y.off, Y.pd]
              have e3 : (Y.missL [[], []]).length = 2 := rfl
              unfold Y.solveB
              rw [e1, e2, e3, Y.miss2_len, if_pos (rfl : ([] : List Nat) = [])]
              rw [decide_eq_false (show ¬ (2 + ((if Y.pOf 4 1 0 [[], [], [], Y.P [A, B]] = [] then 1 else 0) + 1) ≤ 2) by split <;> omega)]
              simp
            rw [e] at h; cases h
          have Bb := belT Ba (belT (belA1 (belR _)) bb)
          clear c0 c1 c2
          obtain ⟨c0, c1, c2⟩ := HK.out _ (belT B5 Bb)
          go_wp2_with fail
          refine Calls.mono (right_no 6 4 1 0 _ [Y.Q [A, B], A, B] _ HOK.out (by decide) (Parts.lit3 (by first | rfl | simp) (YQ5.out.up Bb) (YA5.out.up Bb) (YB5.out.up Bb)) (by simp)) ?_
          rintro e wd ⟨rfl, bd⟩
          have Bd := belT Bb (belT (belA1 (belR _)) bd)
          clear c0 c1 c2
          go_wp2_with fail
          refine Calls.mono (wakes13_any _) ?_
          rintro e we ⟨rfl, be⟩
          go_wp2_with fail
          go_ret
          exact ⟨rfl, belT BB.out (belT B5 (belT Bd be))⟩
end Go.Proofs.Ytknodcaknopcnaa
