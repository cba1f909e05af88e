/- The walk of SyndForms (chapter 3). True at every input. -/
import Derived.Test.YtghbbceephcifaaSyndParts
namespace Go.Proofs.Ytghbbceephcifaa
open Go.RowKit
set_option linter.unusedVariables false
set_option linter.unusedSimpArgs false
set_option maxRecDepth 100000
set_option maxHeartbeats 4000000

theorem wakes3_any (w : World) : Calls Try.prog 41 #[] w fun e w' => e = .returned (.bool true) ∧ Below w.heap.size w w' := by
  go_enter Try.func41, Try.ntmps41
  go_wp2_with fail
  refine Calls.mono (synP_any _ [[1], [2], [3]] _ (Parts.lit3 (by simp) (Byt.lit1 _ 1 _ (by simp) (by decide)).alloc.alloc (Byt.lit1 _ 2 _ (by simp) (by decide)).alloc (Byt.lit1 _ 3 _ (by simp) (by decide))) (by decide) (by simp)) ?_
  rintro e w1 ⟨v1, rfl, hO, hb⟩
  have e : Y.P [[1], [2], [3]] = [0] := by decide +kernel
  rw [e] at hO
  go_wp2_with fail
  refine Calls.mono (same_any _ _ _ _ _ (hO.byt.alloc) (Byt.lit1 _ 0 _ (by simp) (by decide))) ?_
  rw [decide_eq_true rfl]
  rintro e w2 ⟨rfl, hd⟩
  go_wp2
  go_ret
  exact ⟨rfl, (belAlloc (belAlloc (belAlloc (belAlloc (belR w) _) _) _) _).trans ((hb.alloc hb.size _).mono (by simp; omega)) |>.trans (hd.below _)⟩
theorem form_P : ∀ n, n < 256 → Y.P [[1, n], [2, 0], [4, n]] = [7, 0] := by decide +kernel
theorem form_Q : ∀ n, n < 256 → Y.Q [[1, n], [2, 0], [4, n]] = [21, n ^^^ G.gm 4 n] := by decide +kernel
theorem form_P1 : ∀ n, n < 256 → Y.P [[1, n]] = [1, n] := by decide +kernel
theorem form_Q1 : ∀ n, n < 256 → Y.Q [[1, n]] = [1, n] := by decide +kernel
theorem form_P2 (n : Nat) : Y.P [[1, n], [1]] = [] := rfl
theorem form_Q2 (n : Nat) : Y.Q [[1], [1, n]] = [] := rfl
theorem form_A : ∀ n, n < 256 → Y.addL [1, n] [4, n] = [5, 0] := by decide +kernel
theorem form_S : ∀ n, n < 256 → Y.sclL [1, n] 0 = [0, 0] := by decide +kernel
theorem Byt.lit2 (w : World) (x y : Nat) (e : TypeId) {g : Nat} {fr : Nat × Nat} (hg : g = w.heap.size) (hx : x < 256) (hy : y < 256) :
    Byt (w.alloc (.cells #[.int .u8 (x : Nat), .int .u8 (y : Nat)] e fr)) (.slice (some ⟨g, 0, none⟩) 2 2) [x, y] :=
  Byt.lit w _ e [x, y] hg rfl rfl (by intro z hz; simp at hz; rcases hz with rfl | rfl <;> assumption) (by simp)
theorem syndForms_walk (n : Nat) (w : World) (hn : n < 256) :
    Calls Try.prog 12 #[.int .u8 n] w fun e w' => e = .returned (.bool true) ∧ Below w.heap.size w w' := by
  have hx4 : bits .xor .u8 (n : Int) ((G.gm 4 n : Nat) : Int) = ((n ^^^ G.gm 4 n : Nat) : Int) := bx8 hn (G.gm_lt n (by decide))
  have hx5 := G.xor8 hn (G.gm_lt n (by decide : 4 < 256))
  go_enter Try.func12, Try.ntmps12
  go_wp2_with fail
  have A1 := Byt.lit2 w 1 n 5 (g := w.heap.size) (fr := (0, 0)) rfl (by decide) hn
  have B1 := Byt.lit2 (w.alloc (.cells #[.int .u8 ((1 : Nat) : Int), .int .u8 (n : Nat)] 5)) 2 0 5 (g := w.heap.size + 1) (fr := (0, 0)) (by simp) (by decide) (by decide)
  have C1 := Byt.lit2 ((w.alloc (.cells #[.int .u8 ((1 : Nat) : Int), .int .u8 (n : Nat)] 5)).alloc (.cells #[.int .u8 ((2 : Nat) : Int), .int .u8 ((0 : Nat) : Int)] 5)) 4 n 5 (g := w.heap.size + 1 + 1) (fr := (0, 0)) (by simp) (by decide) hn
  refine Calls.mono (synP_any _ [[1, n], [2, 0], [4, n]] _ (Parts.lit3 (by simp) A1.alloc.alloc B1.alloc C1) (by simp) (by simp)) ?_
  rintro e w1 ⟨v1, rfl, O1, b1⟩
  have A := A1.alloc.alloc.alloc.up b1
  have B := B1.alloc.alloc.up b1
  have C := C1.alloc.up b1
  have c1 : Below w.heap.size w w1 := belT (belA4 (belR w)) b1
  rw [form_P n hn] at O1
  clear A1 B1 C1 b1
  go_wp2_with fail
  refine Calls.mono (same_any _ _ _ _ _ O1.byt.alloc (Byt.lit2 _ 7 0 _ (by simp) (by decide) (by decide))) ?_
  rw [decide_eq_true rfl]
  rintro e w2 ⟨rfl, d2⟩
  have c2 : Below w1.heap.size w1 w2 := belT (belA1 (belR w1)) (d2.below _)
  go_wp2_with fail
  refine Calls.mono (synQ_any _ [[1, n], [2, 0], [4, n]] _ (Parts.lit3 (by simp) (A.up c2) (B.up c2) (C.up c2)) (by simp) (by simp)) ?_
  rintro e w3 ⟨v3, rfl, O3, b3⟩
  have c3 : Below w1.heap.size w1 w3 := belT (belA1 c2) b3
  rw [form_Q n hn] at O3
  go_wp2_with fail
  refine Calls.mono (refmul_any 4 n _ (by decide) hn) ?_
  rintro e w4 ⟨rfl, rfl⟩
  go_wp2_with fail
  refine Calls.mono (same_any _ _ _ _ _ O3.byt.alloc (Byt.lit2 _ 21 (n ^^^ G.gm 4 n) _ (by simp) (by decide) hx5)) ?_
  rw [decide_eq_true rfl]
  rintro e w5 ⟨rfl, d5⟩
  have c5 : Below w1.heap.size w1 w5 := belT (belA1 c3) (d5.below _)
  clear c2 c3 b3 d2 d5 O1 O3
  go_wp2_with fail
  refine Calls.mono (synP_any _ [[1, n]] _ (Parts.lit1 (by simp) (A.up c5)) (by simp) (by simp)) ?_
  rintro e w6 ⟨v6, rfl, O6, b6⟩
  have c6 : Below w1.heap.size w1 w6 := belT (belA1 c5) b6
  rw [form_P1 n hn] at O6
  go_wp2_with fail
  refine Calls.mono (same_any _ _ _ _ _ O6.byt (A.up c6)) ?_
  rw [decide_eq_true rfl]
  rintro e w7 ⟨rfl, d7⟩
  have c7 : Below w1.heap.size w1 w7 := belT c6 (d7.below _)
  clear c5 c6 b6 d7 O6
  go_wp2_with fail
  refine Calls.mono (synQ_any _ [[1, n]] _ (Parts.lit1 (by simp) (A.up c7)) (by simp) (by simp)) ?_
  rintro e w8 ⟨v8, rfl, O8, b8⟩
  have c8 : Below w1.heap.size w1 w8 := belT (belA1 c7) b8
  rw [form_Q1 n hn] at O8
  go_wp2_with fail
  refine Calls.mono (same_any _ _ _ _ _ O8.byt (A.up c8)) ?_
  rw [decide_eq_true rfl]
  rintro e w9 ⟨rfl, d9⟩
  have c9 : Below w1.heap.size w1 w9 := belT c8 (d9.below _)
  clear c7 c8 b8 d9 O8
  go_wp2_with fail
  refine Calls.mono (synP_any _ [[1, n], [1]] _ (Parts.lit2 (by simp) (A.up c9).alloc (Byt.lit1 _ 1 _ (by simp) (by decide))) (by simp) (by simp)) ?_
  rintro e w10 ⟨v10, rfl, O10, b10⟩
  have c10 : Below w1.heap.size w1 w10 := belT (belA2 c9) b10
  rw [form_P2 n] at O10
  obtain ⟨ao10, cap10, rfl, _, _⟩ := O10.byt.shapeN rfl
  clear c9 b10 O10
  go_wp2_with fail
  refine Calls.mono (synQ_any _ [[1], [1, n]] _ (Parts.lit2 (by simp) (Byt.lit1 _ 1 _ (by simp) (by decide)) (A.up c10).alloc) (by simp) (by simp)) ?_
  rintro e w11 ⟨v11, rfl, O11, b11⟩
  have c11 : Below w1.heap.size w1 w11 := belT (belA2 c10) b11
  rw [form_Q2 n] at O11
  obtain ⟨ao11, cap11, rfl, _, _⟩ := O11.byt.shapeN rfl
  clear c10 b11 O11
  go_wp2_with fail
  refine Calls.mono (add_any _ _ _ [] _ (A.up c11) (Byt.nil _) (by simp)) ?_
  rintro e w12 ⟨v12, rfl, O12, b12⟩
  have c12 : Below w1.heap.size w1 w12 := belT c11 b12
  obtain ⟨ao12, cap12, rfl, _, _⟩ := O12.byt.shapeN (n := 0) rfl
  clear c11 b12 O12
  go_wp2_with fail
  refine Calls.mono (add_any _ _ _ _ _ (A.up c12) (C.up c12) (by simp)) ?_
  rintro e w13 ⟨v13, rfl, O13, b13⟩
  have c13 : Below w1.heap.size w1 w13 := belT c12 b13
  rw [form_A n hn] at O13
  go_wp2_with fail
  refine Calls.mono (same_any _ _ _ _ _ O13.byt.alloc (Byt.lit2 _ 5 0 _ (by simp) (by decide) (by decide))) ?_
  rw [decide_eq_true rfl]
  rintro e w14 ⟨rfl, d14⟩
  have c14 : Below w1.heap.size w1 w14 := belT (belA1 c13) (d14.below _)
  clear c12 c13 b13 d14 O13
  go_wp2_with fail
  refine Calls.mono (scale_any _ [128, 1] 2 _ (Byt.lit2 _ 128 1 _ (by simp) (by decide) (by decide)) (by decide) (by simp)) ?_
  rintro e w15 ⟨v15, rfl, O15, b15⟩
  have c15 : Below w1.heap.size w1 w15 := belT (belA1 c14) b15
  have e15 : Y.sclL [128, 1] 2 = [29, 2] := by decide +kernel
  rw [e15] at O15
  clear e15
  go_wp2_with fail
  refine Calls.mono (same_any _ _ _ _ _ O15.byt.alloc (Byt.lit2 _ 29 2 _ (by simp) (by decide) (by decide))) ?_
  rw [decide_eq_true rfl]
  rintro e w16 ⟨rfl, d16⟩
  have c16 : Below w1.heap.size w1 w16 := belT (belA1 c15) (d16.below _)
  clear c14 c15 b15 d16 O15
  go_wp2_with fail
  refine Calls.mono (scale_any _ [1, n] 0 _ (A.up c16) (by decide) (by simp)) ?_
  rintro e w17 ⟨v17, rfl, O17, b17⟩
  have c17 : Below w1.heap.size w1 w17 := belT c16 b17
  rw [form_S n hn] at O17
  go_wp2_with fail
  refine Calls.mono (same_any _ _ _ _ _ O17.byt.alloc (Byt.lit2 _ 0 0 _ (by simp) (by decide) (by decide))) ?_
  rw [decide_eq_true rfl]
  rintro e w18 ⟨rfl, d18⟩
  have c18 : Below w1.heap.size w1 w18 := belT (belA1 c17) (d18.below _)
  clear c16 c17 b17 d18 O17
  go_wp2_with fail
  refine Calls.mono (scale_any _ [] 7 _ (Byt.nil _) (by decide) (by simp)) ?_
  rintro e w19 ⟨v19, rfl, O19, b19⟩
  have c19 : Below w1.heap.size w1 w19 := belT c18 b19
  obtain ⟨ao19, cap19, rfl, _, _⟩ := O19.byt.shapeN (n := 0) rfl
  clear c18 b19 O19
  go_wp2_with fail
  refine Calls.mono (wakes3_any _) ?_
  rintro e w20 ⟨rfl, b20⟩
  go_wp2_with fail
  go_ret
  exact ⟨rfl, belT c1 (belT c19 b20)⟩
theorem syndForms_law (n : Int) (hn : 0 ≤ n ∧ n ≤ 255) (W : World) :
    Calls Try.prog 12 #[.int .u8 n] W fun e W' => e = .returned (.bool true) ∧ Below W.heap.size W W' := by
  obtain ⟨m, rfl⟩ := Int.eq_ofNat_of_zero_le hn.1
  exact syndForms_walk m W (by omega)
end Go.Proofs.Ytghbbceephcifaa
