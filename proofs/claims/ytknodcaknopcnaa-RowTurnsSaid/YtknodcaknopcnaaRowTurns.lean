/- The walk of RowTurns (chapter 13). True at every input. -/
import Derived.Test.YtknodcaknopcnaaRwL
import Derived.Test.YtknodcaknopcnaaWk13
namespace Go.Proofs.Ytknodcaknopcnaa
open Go.RowKit
set_option linter.unusedVariables false
set_option linter.unusedSimpArgs false
set_option maxRecDepth 100000
set_option maxHeartbeats 2000000

theorem xor_same {x c : Nat} : x = x ^^^ c ↔ c = 0 := by
  constructor
  · intro h
    have := congrArg (fun z => x ^^^ z) h
    rw [Nat.xor_self, ← Nat.xor_assoc, Nat.xor_self, Nat.zero_xor] at this
    exact this.symm
  · intro h; rw [h, Nat.xor_zero]
attribute [local irreducible] Go.Calls Byt Own Parts RowB OwnD RowL
theorem rowTurns_law (w : World) (n : Int) (hn0 : -9223372036854775808 ≤ n ∧ n ≤ 9223372036854775807) (r0 : Int) (hr0 : -9223372036854775808 ≤ r0 ∧ r0 ≤ 9223372036854775807) (lv : Value) (ll : List Int) (hl : Ints w lv ll) (hll : ll.length * 8 ≤ 140737488351232) (d0 : Int) (hd0 : -9223372036854775808 ≤ d0 ∧ d0 ≤ 9223372036854775807) (at' : Int) (hat : -9223372036854775808 ≤ at' ∧ at' ≤ 9223372036854775807) (cx : Int) (hcx : (0 : Int) ≤ cx ∧ cx ≤ 255) :
    Calls Try.prog 8 #[.int .i64 n, .int .i64 r0, lv, .int .i64 d0, .int .i64 at', .int .u8 cx] w fun e w' => e = .returned (.bool true) ∧ Below w.heap.size w w' := by
  have hn : i64b n := hn0
  have HR := Lib.hid (show i64b r0 from hr0)
  have HD := Lib.hid (show i64b d0 from hd0)
  have HAT := Lib.hid (show i64b at' from hat)
  have HLL := Lib.hid hl
  obtain ⟨cc, hcc, hcc8⟩ : ∃ cc : Nat, cx = cc ∧ cc < 256 := ⟨cx.toNat, by omega, by omega⟩
  subst hcc
  have HCC := Lib.hid hcc8
  clear hn0 hr0 hd0 hat hcx hl hcc8
  go_enter Try.func8, Try.ntmps8
  go_wp2_with fail
  refine Calls.mono (pgood_any n _ hn) ?_
  rintro e w1 ⟨l', d', c', rfl, hok, b1⟩
  obtain ⟨l, d, c, rfl, rfl, rfl, hokN⟩ := geo_okN hok
  obtain ⟨hl64, hd64, hc64⟩ := okN_in hokN
  have HOK := Lib.hid hokN
  have HK : Hid (∀ X, Below (w1.alloc (.cells #[.int .i64 (l : Int), .int .i64 (d : Int), .int .i64 (c : Int)] 42)).heap.size (w1.alloc (.cells #[.int .i64 (l : Int), .int .i64 (d : Int), .int .i64 (c : Int)] 42)) X → X.cell? ⟨w1.heap.size, 0, none⟩ = some (.int .i64 l) ∧ X.cell? ⟨w1.heap.size, 1, none⟩ = some (.int .i64 d) ∧ X.cell? ⟨w1.heap.size, 2, none⟩ = some (.int .i64 c)) :=
    fun X hX => ⟨box_up hX 0 rfl, box_up hX 1 rfl, box_up hX 2 rfl⟩
  have HW : Hid ((Geo.mk l d c).width = ((d - (l - 4) : Nat) : Int)) := by
    show _ = _
    unfold Geo.width
    rw [if_pos hok]
    have := hokN.1
    dsimp only
    omega
  have HRW := Lib.hid (refwidth_any l d c · hl64 hd64 hc64)
  have hd8 : Hid (1 ≤ d ∧ d ≤ 8 ∧ l - 4 + (d - (l - 4)) = d ∧ 1 ≤ d - (l - 4) ∧ 3 ≤ d ∧ l - 4 ≤ 2) := by
    obtain ⟨h1, h2, _⟩ := hokN
    refine ⟨?_, ?_, ?_, ?_, ?_, ?_⟩ <;> omega
  have hd81 : (1 : Int) ≤ (d : Int) := by have := hd8.out; omega
  have hd88 : (d : Int) ≤ 8 := by have := hd8.out; omega
  have hdd : ((d : Int) != (d : Int)) = false := by simp
  clear hl64 hd64 hc64 hokN hok hn
  go_wp2_with fail
  refine Calls.mono (within_ex r0 16 _ (by decide) (by decide) HR.out) ?_
  rintro e w2 ⟨r, rfl, hr, rfl⟩
  have HRR : Hid (r < 16) := Lib.hid (by omega)
  have BB : Hid (Below w.heap.size w (w1.alloc (.cells #[.int .i64 (l : Int), .int .i64 (d : Int), .int .i64 (c : Int)] 42))) := Lib.hid (belA1 b1)
  clear hr
  obtain ⟨c0, c1, c2⟩ := HK.out _ (belR _)
  go_wp2_with fail
  refine wp_region_held_drew (S := fun X => X.cell? ⟨w1.heap.size, 0, none⟩ = some (.int .i64 (l : Int)) ∧ X.cell? ⟨w1.heap.size, 1, none⟩ = some (.int .i64 (d : Int)) ∧ X.cell? ⟨w1.heap.size, 2, none⟩ = some (.int .i64 (c : Int))) (by kernel_rfl) (by exact HK.out _ (by iterate 8 try (first | assumption | exact belR _ | apply belDr | apply belAlloc))) (fun hHeld => ?_)
  refine wpAnyH_take (i := 0) (oi := _) (v := ?_) rfl (by kernel_rfl) (by kernel_rfl) (by kernel_rfl) (fun _ _ _ h => h) (Or.inl ⟨by rfl, ?_⟩) (by assumption) ?_
  rotate_left
  · intro w hSw
    (try dsimp only at hSw)
    go_simp
    try with_reducible rfl
  try simp only [Act.put, List.getElem_toArray, List.getElem_cons_zero, List.getElem_cons_succ, List.setIfInBounds_toArray, List.set_cons_zero, List.set_cons_succ]
  refine wpAnyH_take (i := 1) (oi := _) (v := ?_) rfl (by kernel_rfl) (by kernel_rfl) (by kernel_rfl) (fun _ _ _ h => h) (Or.inl ⟨by rfl, ?_⟩) (by assumption) ?_
  rotate_left
  · intro w hSw
    (try dsimp only at hSw)
    go_simp
    try with_reducible rfl
  try simp only [Act.put, List.getElem_toArray, List.getElem_cons_zero, List.getElem_cons_succ, List.setIfInBounds_toArray, List.set_cons_zero, List.set_cons_succ]
  refine wpAnyH_take (i := 2) (oi := _) (v := ?_) rfl (by kernel_rfl) (by kernel_rfl) (by kernel_rfl) (fun _ _ _ h => h) (Or.inl ⟨by rfl, ?_⟩) (by assumption) ?_
  rotate_left
  · intro w hSw
    (try dsimp only at hSw)
    go_simp
    try with_reducible rfl
  try simp only [Act.put, List.getElem_toArray, List.getElem_cons_zero, List.getElem_cons_succ, List.setIfInBounds_toArray, List.set_cons_zero, List.set_cons_succ]
  refine wpAnyH_take (i := 3) (oi := _) (v := ?_) rfl (by kernel_rfl) (by kernel_rfl) (by kernel_rfl) (fun _ _ _ h => h) (Or.inl ⟨by rfl, ?_⟩) (by assumption) ?_
  rotate_left
  · intro w hSw
    (try dsimp only at hSw)
    go_simp
    try with_reducible rfl
  try simp only [Act.put, List.getElem_toArray, List.getElem_cons_zero, List.getElem_cons_succ, List.setIfInBounds_toArray, List.set_cons_zero, List.set_cons_succ]
  refine wpAnyH_ready (rs := [4]) (by kernel_rfl) (by simp) ?_
  refine AllReadyH.cons (o := _) rfl (fun K hK => ?_) AllReadyH.nil
  go_simp
  refine Calls.mono (HRW.out _) ?_
  rw [HW.out]
  rintro e w3 ⟨rfl, b3⟩
  have B3 : Below (w1.alloc (.cells #[.int .i64 (l : Int), .int .i64 (d : Int), .int .i64 (c : Int)] 42)).heap.size (w1.alloc (.cells #[.int .i64 (l : Int), .int .i64 (d : Int), .int .i64 (c : Int)] 42)) w3 := belT (by iterate 8 try (first | assumption | exact belR _ | apply belDr | apply belAlloc)) b3
  try go_simp
  refine hK.out _ _ (by exact HK.out _ (by iterate 8 try (first | assumption | exact belR _ | apply belDr | apply belAlloc))) (fun hHeld => ?_)
  clear hK K
  try simp only [Act.put, List.getElem_toArray, List.getElem_cons_zero, List.getElem_cons_succ, List.setIfInBounds_toArray, List.set_cons_zero, List.set_cons_succ]
  refine wpAnyH_ready (rs := [5]) (by kernel_rfl) (by simp) ?_
  refine AllReadyH.cons (o := _) rfl (fun K hK => ?_) AllReadyH.nil
  go_simp
  refine Calls.mono (sectors13_any _ ll _ _ (HLL.out.up (belT BB.out (by iterate 8 try (first | assumption | exact belR _ | apply belDr | apply belAlloc)))) (by have := hd8.out; omega)) ?_
  rintro e w4 ⟨v4, rfl, O4, b4⟩
  have B4 : Below (w1.alloc (.cells #[.int .i64 (l : Int), .int .i64 (d : Int), .int .i64 (c : Int)] 42)).heap.size (w1.alloc (.cells #[.int .i64 (l : Int), .int .i64 (d : Int), .int .i64 (c : Int)] 42)) w4 := belT (by iterate 8 try (first | assumption | exact belR _ | apply belDr | apply belAlloc)) b4
  try go_simp
  refine hK.out _ _ (by exact HK.out _ (by iterate 8 try (first | assumption | exact belR _ | apply belDr | apply belAlloc))) (fun hHeld => ?_)
  clear hK K
  try simp only [Act.put, List.getElem_toArray, List.getElem_cons_zero, List.getElem_cons_succ, List.setIfInBounds_toArray, List.set_cons_zero, List.set_cons_succ]
  refine wpAnyH_ready (rs := [6]) (by kernel_rfl) (by simp) ?_
  refine AllReadyH.cons (o := _) rfl (fun K hK => ?_) AllReadyH.nil
  go_simp
  refine Calls.mono (fill_any l d c r _ (sectL ll (d - (l - 4))) _ HOK.out HRR.out (O4.parts.up (by first | exact belR _ | exact belDr (belR _))) (sectL_len _ _) (sectL_32 _ _)) ?_
  rintro e w5 ⟨v5, rfl, O5, b5⟩
  have B5 : Below (w1.alloc (.cells #[.int .i64 (l : Int), .int .i64 (d : Int), .int .i64 (c : Int)] 42)).heap.size (w1.alloc (.cells #[.int .i64 (l : Int), .int .i64 (d : Int), .int .i64 (c : Int)] 42)) w5 := belT (by iterate 8 try (first | assumption | exact belR _ | apply belDr | apply belAlloc)) b5
  have HX : Hid (OwnD w5 (w1.alloc (.cells #[.int .i64 (l : Int), .int .i64 (d : Int), .int .i64 (c : Int)] 42)).heap.size v5 (Y.fillL l d c r (sectL ll (d - (l - 4)))) (fun _ => False)) := Lib.hid (O5.mono ((by iterate 8 try (first | assumption | exact belR _ | apply belDr | apply belAlloc)) : Below (w1.alloc (.cells #[.int .i64 (l : Int), .int .i64 (d : Int), .int .i64 (c : Int)] 42)).heap.size (w1.alloc (.cells #[.int .i64 (l : Int), .int .i64 (d : Int), .int .i64 (c : Int)] 42)) _).size (fun _ _ h => h))
  try go_simp
  refine hK.out _ _ (by exact HK.out _ (by iterate 8 try (first | assumption | exact belR _ | apply belDr | apply belAlloc))) (fun hHeld => ?_)
  clear hK K
  try simp only [Act.put, List.getElem_toArray, List.getElem_cons_zero, List.getElem_cons_succ, List.setIfInBounds_toArray, List.set_cons_zero, List.set_cons_succ]
  refine wpAnyH_take (i := 7) (oi := _) (v := ?_) rfl (by kernel_rfl) (by kernel_rfl) (by kernel_rfl) (fun _ _ _ h => h) (Or.inl ⟨by rfl, ?_⟩) (by assumption) ?_
  rotate_left
  · intro w hSw
    (try dsimp only at hSw)
    go_simp
    try with_reducible rfl
  try simp only [Act.put, List.getElem_toArray, List.getElem_cons_zero, List.getElem_cons_succ, List.setIfInBounds_toArray, List.set_cons_zero, List.set_cons_succ]
  refine wpAnyH_take (i := 8) (oi := _) (v := ?_) rfl (by kernel_rfl) (by kernel_rfl) (by kernel_rfl) (fun _ _ _ h => h) (Or.inl ⟨by rfl, ?_⟩) (by assumption) ?_
  rotate_left
  · intro w hSw
    (try dsimp only at hSw)
    go_simp
    try with_reducible rfl
  try simp only [Act.put, List.getElem_toArray, List.getElem_cons_zero, List.getElem_cons_succ, List.setIfInBounds_toArray, List.set_cons_zero, List.set_cons_succ]
  refine wpAnyH_take (i := 9) (oi := _) (v := ?_) rfl (by kernel_rfl) (by kernel_rfl) (by kernel_rfl) (fun _ _ _ h => h) (Or.inl ⟨by rfl, ?_⟩) (by assumption) ?_
  rotate_left
  · intro w hSw
    (try dsimp only at hSw)
    go_simp
    try with_reducible rfl
  try simp only [Act.put, List.getElem_toArray, List.getElem_cons_zero, List.getElem_cons_succ, List.setIfInBounds_toArray, List.set_cons_zero, List.set_cons_succ]
  refine wpAnyH_take (i := 10) (oi := _) (v := ?_) rfl (by kernel_rfl) (by kernel_rfl) (by kernel_rfl) (fun _ _ _ h => h) (Or.inl ⟨by rfl, ?_⟩) (by assumption) ?_
  rotate_left
  · intro w hSw
    (try dsimp only at hSw)
    go_simp
    try with_reducible rfl
  try simp only [Act.put, List.getElem_toArray, List.getElem_cons_zero, List.getElem_cons_succ, List.setIfInBounds_toArray, List.set_cons_zero, List.set_cons_succ]
  refine wpAnyH_take (i := 11) (oi := _) (v := ?_) rfl (by kernel_rfl) (by kernel_rfl) (by kernel_rfl) (fun _ _ _ h => h) (Or.inl ⟨by rfl, ?_⟩) (by assumption) ?_
  rotate_left
  · intro w hSw
    (try dsimp only at hSw)
    go_simp
    try with_reducible rfl
  try simp only [Act.put, List.getElem_toArray, List.getElem_cons_zero, List.getElem_cons_succ, List.setIfInBounds_toArray, List.set_cons_zero, List.set_cons_succ]
  refine wpAnyH_done (by kernel_rfl) ?_ _
  clear O4 O5 b4 b5 b3 B3 B4 c0 c1 c2
  obtain ⟨g, cap, rfl, hg1, hg2, hcap1, hcap2⟩ := HX.out.toB.shape (by rw [Y.fillL_len]; have := hd8.out; omega)
  rw [Y.fillL_len] at hcap1 ⊢
  have HXD : Hid (OwnD w5 (w1.alloc (.cells #[.int .i64 (l : Int), .int .i64 (d : Int), .int .i64 (c : Int)] 42)).heap.size (.slice (some ⟨g, 0, none⟩) d cap) (Y.fillL l d c r (sectL ll (d - (l - 4)))) (fun _ => False)) := by have := HX.out; rw [Y.fillL_len] at this; exact this
  obtain ⟨c0, c1, c2⟩ := HK.out _ B5
  go_wp2_with fail
  refine Calls.mono (within_ex d0 d _ (by omega) hd81 HD.out) ?_
  rintro e w6 ⟨i, rfl, hi, rfl⟩
  have hi0 : (0 : Int) ≤ (i : Int) := by omega
  have HI : Hid (i < d) := Lib.hid (by omega)
  obtain ⟨rb', ro', c', p, he, hcr, hp, hoc, hset, hne1, hlt1, _⟩ := HXD.out.get (k := i) (by rw [Y.fillL_len]; exact HI.out)
  cases he
  rw [Nat.zero_add] at hcr
  have hset := Lib.hid hset
  have HF32 := Lib.hid (Y.fillL_32 (r := r) HOK.out (data := sectL ll (d - (l - 4))) (by rw [sectL_len]) (sectL_32 _ _))
  have hp32 : p.length = 32 := HF32.out p (List.mem_of_getElem? hp.out)
  obtain ⟨gr, cr, he2, hgr1, hgr2, hgr3, hgr4⟩ := hoc.shape (by rw [hp32]; decide)
  rw [hp32] at he2
  subst he2
  have HOC := Lib.hid hoc
  have HP32 := Lib.hid hp32
  clear hoc hp32
  go_wp2_with fail
  refine wp_region_held_drew (S := fun _ => True) (by kernel_rfl) trivial (fun hHeld => ?_)
  refine wpAnyH_take (i := 0) (oi := _) (v := ?_) rfl (by kernel_rfl) (by kernel_rfl) (by kernel_rfl) (fun _ _ _ h => h) (Or.inl ⟨by rfl, ?_⟩) (by assumption) ?_
  rotate_left
  · intro w hSw
    (try dsimp only at hSw)
    go_simp
    try with_reducible rfl
  try simp only [Act.put, List.getElem_toArray, List.getElem_cons_zero, List.getElem_cons_succ, List.setIfInBounds_toArray, List.set_cons_zero, List.set_cons_succ]
  refine wpAnyH_take (i := 1) (oi := _) (v := ?_) rfl (by kernel_rfl) (by kernel_rfl) (by kernel_rfl) (fun _ _ _ h => h) (Or.inl ⟨by rfl, ?_⟩) (by assumption) ?_
  rotate_left
  · intro w hSw
    (try dsimp only at hSw)
    go_simp
    try with_reducible rfl
  try simp only [Act.put, List.getElem_toArray, List.getElem_cons_zero, List.getElem_cons_succ, List.setIfInBounds_toArray, List.set_cons_zero, List.set_cons_succ]
  refine wpAnyH_take (i := 4) (oi := _) (v := ?_) rfl (by kernel_rfl) (by kernel_rfl) (by kernel_rfl) (fun _ _ _ h => h) (Or.inl ⟨by rfl, ?_⟩) (by assumption) ?_
  rotate_left
  · intro w hSw
    (try dsimp only at hSw)
    go_simp
    try with_reducible rfl
  try simp only [Act.put, List.getElem_toArray, List.getElem_cons_zero, List.getElem_cons_succ, List.setIfInBounds_toArray, List.set_cons_zero, List.set_cons_succ]
  refine wpAnyH_take (i := 8) (oi := _) (v := ?_) rfl (by kernel_rfl) (by kernel_rfl) (by kernel_rfl) (fun _ _ _ h => h) (Or.inl ⟨by rfl, ?_⟩) (by assumption) ?_
  rotate_left
  · intro w hSw
    (try dsimp only at hSw)
    go_simp
    try with_reducible rfl
  try simp only [Act.put, List.getElem_toArray, List.getElem_cons_zero, List.getElem_cons_succ, List.setIfInBounds_toArray, List.set_cons_zero, List.set_cons_succ]
  refine wpAnyH_take (i := 2) (oi := _) (v := ?_) rfl (by kernel_rfl) (by kernel_rfl) (by kernel_rfl) (fun _ _ _ h => h) (Or.inl ⟨by rfl, ?_⟩) (by assumption) ?_
  rotate_left
  · intro w hSw
    (try dsimp only at hSw)
    go_simp
    try with_reducible rfl
  try simp only [Act.put, List.getElem_toArray, List.getElem_cons_zero, List.getElem_cons_succ, List.setIfInBounds_toArray, List.set_cons_zero, List.set_cons_succ]
  refine wpAnyH_ready (rs := [3, 5]) (by kernel_rfl) (by simp) ?_
  refine AllReadyH.cons (o := _) rfl (fun K hK => ?_) (AllReadyH.cons (o := _) rfl (fun K hK => ?_) AllReadyH.nil)
  · go_simp
    refine hK.out _ _ trivial (fun hHeld => ?_)
    clear hK K
    try simp only [Act.put, List.getElem_toArray, List.getElem_cons_zero, List.getElem_cons_succ, List.setIfInBounds_toArray, List.set_cons_zero, List.set_cons_succ]
    refine wpAnyH_ready (rs := [5]) (by kernel_rfl) (by simp) ?_
    refine AllReadyH.cons (o := _) rfl (fun K hK => ?_) AllReadyH.nil
    go_simp
    refine Calls.mono (within_ex at' 32 _ (by decide) (by decide) HAT.out) ?_
    rintro e wb ⟨t, rfl, ht32, rfl⟩
    obtain ⟨x0, hx0⟩ : ∃ x0, p[t]? = some x0 := ⟨_, List.getElem?_eq_getElem (by have := HP32.out; omega)⟩
    obtain ⟨hx8, hca, hfa⟩ := HOC.out.cells hx0
    have ht00 : (0 : Int) ≤ (t : Int) := by omega
    have hbx : bits .xor .u8 (x0 : Int) (cc : Int) = ((x0 ^^^ cc : Nat) : Int) := bx8 hx8 HCC.out
    have hy8 : x0 ^^^ cc < 256 := G.xor8 hx8 HCC.out
    try go_simp
    refine hK.out _ _ trivial (fun hHeld => ?_)
    clear hK K
    try simp only [Act.put, List.getElem_toArray, List.getElem_cons_zero, List.getElem_cons_succ, List.setIfInBounds_toArray, List.set_cons_zero, List.set_cons_succ]
    refine wpAnyH_take (i := 6) (oi := _) (v := ?_) rfl (by kernel_rfl) (by kernel_rfl) (by kernel_rfl) (fun _ _ _ h => h) (Or.inl ⟨by rfl, ?_⟩) (by assumption) ?_
    rotate_left
    · intro w hSw
      (try dsimp only at hSw)
      go_simp
      try with_reducible rfl
    try simp only [Act.put, List.getElem_toArray, List.getElem_cons_zero, List.getElem_cons_succ, List.setIfInBounds_toArray, List.set_cons_zero, List.set_cons_succ]
    refine wpAnyH_ready (rs := [7]) (by kernel_rfl) (by simp) ?_
    refine AllReadyH.cons (o := _) rfl (fun K hK => ?_) AllReadyH.nil
    go_simp
    refine hK.out _ _ trivial (fun hHeld => ?_)
    clear hK K
    try simp only [Act.put, List.getElem_toArray, List.getElem_cons_zero, List.getElem_cons_succ, List.setIfInBounds_toArray, List.set_cons_zero, List.set_cons_succ]
    refine wpAnyH_take (i := 9) (oi := _) (v := ?_) rfl (by kernel_rfl) (by kernel_rfl) (by kernel_rfl) (fun _ _ _ h => h) (Or.inl ⟨by rfl, ?_⟩) (by assumption) ?_
    rotate_left
    · intro w hSw
      (try dsimp only at hSw)
      go_simp
      try with_reducible rfl
    try simp only [Act.put, List.getElem_toArray, List.getElem_cons_zero, List.getElem_cons_succ, List.setIfInBounds_toArray, List.set_cons_zero, List.set_cons_succ]
    refine wpAnyH_take (i := 10) (oi := _) (v := ?_) rfl (by kernel_rfl) (by kernel_rfl) (by kernel_rfl) (fun _ _ _ h => h) (Or.inl ⟨by rfl, ?_⟩) (by assumption) ?_
    rotate_left
    · intro w hSw
      (try dsimp only at hSw)
      go_simp
      try with_reducible rfl
    try simp only [Act.put, List.getElem_toArray, List.getElem_cons_zero, List.getElem_cons_succ, List.setIfInBounds_toArray, List.set_cons_zero, List.set_cons_succ]
    refine wpAnyH_ready (rs := [11]) (by kernel_rfl) (by simp) ?_
    refine AllReadyH.cons (o := _) rfl (fun K hK => ?_) AllReadyH.nil
    go_simp
    refine hK.out _ _ trivial (fun hHeld => ?_)
    clear hK K
    try simp only [Act.put, List.getElem_toArray, List.getElem_cons_zero, List.getElem_cons_succ, List.setIfInBounds_toArray, List.set_cons_zero, List.set_cons_succ]
    refine wpAnyH_done (by kernel_rfl) ?_ _
    have h1 := HOC.out.store t (x0 ^^^ cc) hy8
    have O9 := Lib.hid (hset.out _ _ h1.1 h1.2)
    have B9 : Below (w1.alloc (.cells #[.int .i64 (l : Int), .int .i64 (d : Int), .int .i64 (c : Int)] 42)).heap.size (w1.alloc (.cells #[.int .i64 (l : Int), .int .i64 (d : Int), .int .i64 (c : Int)] 42)) (w5.setCell ⟨gr, t, none⟩ (.int .u8 ((x0 ^^^ cc : Nat) : Int))) := B5.setCell (by show (w1.alloc (.cells #[.int .i64 (l : Int), .int .i64 (d : Int), .int .i64 (c : Int)] 42)).heap.size ≤ gr; exact hgr1) _
    have hRB : Y.rightB l d c r ((Y.fillL l d c r (sectL ll (d - (l - 4)))).set i (p.set t (x0 ^^^ cc))) = decide (cc = 0) := by
      have e1 : (Y.fillL l d c r (sectL ll (d - (l - 4)))).getD i [] = p := by rw [List.getD, hp.out]; rfl
      have := Y.turned_right (r := r) HOK.out (sectL_len ll _) (sectL_32 ll _) (sectL_byte ll _) (i := i) (t := t) (x := x0) (y := x0 ^^^ cc) HI.out (by omega) (by rw [e1, List.getD, hx0]; rfl) hy8
      rw [e1] at this
      rw [this]
      exact decide_eq_decide.2 xor_same
    clear c0 c1 c2 h1 hca hfa hcr
    obtain ⟨c0, c1, c2⟩ := HK.out _ B9
    have HRB := Lib.hid hRB
    clear hRB
    go_wp2_with fail
    refine Calls.mono (right_any l d c r _ ((Y.fillL l d c r (sectL ll (d - (l - 4)))).set i (p.set t (x0 ^^^ cc))) _ HOK.out HRR.out (O9.out.parts.up (by first | exact belR _ | exact belDr (belR _))) (by rw [List.length_set, Y.fillL_len])) ?_
    rw [HRB.out]
    by_cases hz : cc = 0
    · rw [decide_eq_true hz]
      have hz1 : ((cc : Int) == 0) = true := by rw [hz]; rfl
      rintro e w10 ⟨rfl, b10⟩
      go_wp2_with fail
      refine Calls.mono (wakes13_any _) ?_
      rintro e w11 ⟨rfl, b11⟩
      go_wp2_with fail
      go_ret
      exact ⟨rfl, belT BB.out (belT (belT (by first | exact B9 | exact belDr B9) b10) b11)⟩
    · rw [decide_eq_false hz]
      have hz1 : ((cc : Int) == 0) = false := by rw [beq_eq_false_iff_ne]; omega
      rintro e w10 ⟨rfl, b10⟩
      go_wp2_with fail
      refine Calls.mono (wakes13_any _) ?_
      rintro e w11 ⟨rfl, b11⟩
      go_wp2_with fail
      go_ret
      exact ⟨rfl, belT BB.out (belT (belT (by first | exact B9 | exact belDr B9) b10) b11)⟩
  · go_simp
    refine Calls.mono (within_ex at' 32 _ (by decide) (by decide) HAT.out) ?_
    rintro e wb ⟨t, rfl, ht32, rfl⟩
    obtain ⟨x0, hx0⟩ : ∃ x0, p[t]? = some x0 := ⟨_, List.getElem?_eq_getElem (by have := HP32.out; omega)⟩
    obtain ⟨hx8, hca, hfa⟩ := HOC.out.cells hx0
    have ht00 : (0 : Int) ≤ (t : Int) := by omega
    have hbx : bits .xor .u8 (x0 : Int) (cc : Int) = ((x0 ^^^ cc : Nat) : Int) := bx8 hx8 HCC.out
    have hy8 : x0 ^^^ cc < 256 := G.xor8 hx8 HCC.out
    try go_simp
    refine hK.out _ _ trivial (fun hHeld => ?_)
    clear hK K
    try simp only [Act.put, List.getElem_toArray, List.getElem_cons_zero, List.getElem_cons_succ, List.setIfInBounds_toArray, List.set_cons_zero, List.set_cons_succ]
    refine wpAnyH_ready (rs := [3]) (by kernel_rfl) (by simp) ?_
    refine AllReadyH.cons (o := _) rfl (fun K hK => ?_) AllReadyH.nil
    go_simp
    refine hK.out _ _ trivial (fun hHeld => ?_)
    clear hK K
    try simp only [Act.put, List.getElem_toArray, List.getElem_cons_zero, List.getElem_cons_succ, List.setIfInBounds_toArray, List.set_cons_zero, List.set_cons_succ]
    refine wpAnyH_take (i := 6) (oi := _) (v := ?_) rfl (by kernel_rfl) (by kernel_rfl) (by kernel_rfl) (fun _ _ _ h => h) (Or.inl ⟨by rfl, ?_⟩) (by assumption) ?_
    rotate_left
    · intro w hSw
      (try dsimp only at hSw)
      go_simp
      try with_reducible rfl
    try simp only [Act.put, List.getElem_toArray, List.getElem_cons_zero, List.getElem_cons_succ, List.setIfInBounds_toArray, List.set_cons_zero, List.set_cons_succ]
    refine wpAnyH_ready (rs := [7]) (by kernel_rfl) (by simp) ?_
    refine AllReadyH.cons (o := _) rfl (fun K hK => ?_) AllReadyH.nil
    go_simp
    refine hK.out _ _ trivial (fun hHeld => ?_)
    clear hK K
    try simp only [Act.put, List.getElem_toArray, List.getElem_cons_zero, List.getElem_cons_succ, List.setIfInBounds_toArray, List.set_cons_zero, List.set_cons_succ]
    refine wpAnyH_take (i := 9) (oi := _) (v := ?_) rfl (by kernel_rfl) (by kernel_rfl) (by kernel_rfl) (fun _ _ _ h => h) (Or.inl ⟨by rfl, ?_⟩) (by assumption) ?_
    rotate_left
    · intro w hSw
      (try dsimp only at hSw)
      go_simp
      try with_reducible rfl
    try simp only [Act.put, List.getElem_toArray, List.getElem_cons_zero, List.getElem_cons_succ, List.setIfInBounds_toArray, List.set_cons_zero, List.set_cons_succ]
    refine wpAnyH_take (i := 10) (oi := _) (v := ?_) rfl (by kernel_rfl) (by kernel_rfl) (by kernel_rfl) (fun _ _ _ h => h) (Or.inl ⟨by rfl, ?_⟩) (by assumption) ?_
    rotate_left
    · intro w hSw
      (try dsimp only at hSw)
      go_simp
      try with_reducible rfl
    try simp only [Act.put, List.getElem_toArray, List.getElem_cons_zero, List.getElem_cons_succ, List.setIfInBounds_toArray, List.set_cons_zero, List.set_cons_succ]
    refine wpAnyH_ready (rs := [11]) (by kernel_rfl) (by simp) ?_
    refine AllReadyH.cons (o := _) rfl (fun K hK => ?_) AllReadyH.nil
    go_simp
    refine hK.out _ _ trivial (fun hHeld => ?_)
    clear hK K
    try simp only [Act.put, List.getElem_toArray, List.getElem_cons_zero, List.getElem_cons_succ, List.setIfInBounds_toArray, List.set_cons_zero, List.set_cons_succ]
    refine wpAnyH_done (by kernel_rfl) ?_ _
    have h1 := HOC.out.store t (x0 ^^^ cc) hy8
    have O9 := Lib.hid (hset.out _ _ h1.1 h1.2)
    have B9 : Below (w1.alloc (.cells #[.int .i64 (l : Int), .int .i64 (d : Int), .int .i64 (c : Int)] 42)).heap.size (w1.alloc (.cells #[.int .i64 (l : Int), .int .i64 (d : Int), .int .i64 (c : Int)] 42)) (w5.setCell ⟨gr, t, none⟩ (.int .u8 ((x0 ^^^ cc : Nat) : Int))) := B5.setCell (by show (w1.alloc (.cells #[.int .i64 (l : Int), .int .i64 (d : Int), .int .i64 (c : Int)] 42)).heap.size ≤ gr; exact hgr1) _
    have hRB : Y.rightB l d c r ((Y.fillL l d c r (sectL ll (d - (l - 4)))).set i (p.set t (x0 ^^^ cc))) = decide (cc = 0) := by
      have e1 : (Y.fillL l d c r (sectL ll (d - (l - 4)))).getD i [] = p := by rw [List.getD, hp.out]; rfl
      have := Y.turned_right (r := r) HOK.out (sectL_len ll _) (sectL_32 ll _) (sectL_byte ll _) (i := i) (t := t) (x := x0) (y := x0 ^^^ cc) HI.out (by omega) (by rw [e1, List.getD, hx0]; rfl) hy8
      rw [e1] at this
      rw [this]
      exact decide_eq_decide.2 xor_same
    clear c0 c1 c2 h1 hca hfa hcr
    obtain ⟨c0, c1, c2⟩ := HK.out _ B9
    have HRB := Lib.hid hRB
    clear hRB
    go_wp2_with fail
    refine Calls.mono (right_any l d c r _ ((Y.fillL l d c r (sectL ll (d - (l - 4)))).set i (p.set t (x0 ^^^ cc))) _ HOK.out HRR.out (O9.out.parts.up (by first | exact belR _ | exact belDr (belR _))) (by rw [List.length_set, Y.fillL_len])) ?_
    rw [HRB.out]
    by_cases hz : cc = 0
    · rw [decide_eq_true hz]
      have hz1 : ((cc : Int) == 0) = true := by rw [hz]; rfl
      rintro e w10 ⟨rfl, b10⟩
      go_wp2_with fail
      refine Calls.mono (wakes13_any _) ?_
      rintro e w11 ⟨rfl, b11⟩
      go_wp2_with fail
      go_ret
      exact ⟨rfl, belT BB.out (belT (belT (by first | exact B9 | exact belDr B9) b10) b11)⟩
    · rw [decide_eq_false hz]
      have hz1 : ((cc : Int) == 0) = false := by rw [beq_eq_false_iff_ne]; omega
      rintro e w10 ⟨rfl, b10⟩
      go_wp2_with fail
      refine Calls.mono (wakes13_any _) ?_
      rintro e w11 ⟨rfl, b11⟩
      go_wp2_with fail
      go_ret
      exact ⟨rfl, belT BB.out (belT (belT (by first | exact B9 | exact belDr B9) b10) b11)⟩
end Go.Proofs.Ytknodcaknopcnaa
