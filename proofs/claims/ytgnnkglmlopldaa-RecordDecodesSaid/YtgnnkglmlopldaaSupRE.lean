/- The walks of the reference's four, geom, full, EncodeSuper. -/
import Derived.Test.YtgnnkglmlopldaaSupR
namespace Go.Proofs.Ytgnnkglmlopldaa
open Go.RowKit C
set_option linter.unusedVariables false
set_option linter.unusedSimpArgs false
set_option maxRecDepth 100000
set_option maxHeartbeats 4000000

theorem four_any (n : Nat) (w : World) (hn : (n : Int) ≤ 2147483647) :
    Calls Try.prog 38 #[.int .i64 (n : Int)] w fun e w' => ∃ g, e = .returned (.slice (some ⟨g, 0, none⟩) 4 4) ∧ Own w' w.heap.size (.slice (some ⟨g, 0, none⟩) 4 4) [n / 16777216 % 256, n / 65536 % 256, n / 256 % 256, n % 256] ∧ Below w.heap.size w w' := by
  go_enter Try.func38, Try.ntmps38
  go_wp2
  go_ret
  refine ⟨_, rfl, ?_, belA1 (belR _)⟩
  exact Own.lit _ _ _ (by simp) rfl (by simp [u8v]; omega) (by intro x hx; simp at hx; omega) (by simp) (by simp)
theorem refgeom_any (l d c : Nat) (w : World) :
    Calls Try.prog 51 #[.agg #[.int .i64 (l : Int), .int .i64 (d : Int), .int .i64 (c : Int)]] w fun e w' => ∃ g, e = .returned (.slice (some ⟨g, 0, none⟩) 3 3) ∧ Own w' w.heap.size (.slice (some ⟨g, 0, none⟩) 3 3) (Geo.mk l d c).bytes ∧ Below w.heap.size w w' := by
  have hb : Hid ((Geo.mk l d c).bytes = [l % 256, d % 256, c % 256]) := by show _ = _; unfold Geo.bytes; simp
  go_enter Try.func51, Try.ntmps51
  go_wp2
  go_ret
  refine ⟨_, rfl, ?_, belA2 (belR _)⟩
  rw [hb.out]
  exact Own.lit _ _ _ (by simp) rfl (by simp [u8v]) (by intro x hx; simp at hx; omega) (by simp) (by simp)
theorem full_any (ao : Option Addr) (n cap : Nat) (l : List Nat) (w : World) (base : Nat) (h : Own w base (.slice ao n cap) l) (hn : n < 32) (hb : base ≤ w.heap.size) :
    Calls Try.prog 39 #[.slice ao n cap] w fun e w' => ∃ v, e = .returned v ∧ Own w' base v (l ++ List.replicate (32 - n) 0) ∧ w.grownBy w' (Value.slice ao n cap).ownBlock := by
  obtain ⟨j0, hj, hy0, hy1, hy2⟩ := info_parts uint8_info
  have hl := h.lenN
  have HL := Lib.hid hl
  have e : (32 : Int) - (n : Int) = ((32 - n : Nat) : Int) := by omega
  have HE := Lib.hid e
  clear hl e
  go_enter Try.func39, Try.ntmps39
  go_wp2_with (at_builtin; refine wpList_append_zbytes rfl (.tmp 3) (.tmp 6) 37 3 rfl j0 Try.underlying37 .i64 .i64 Try.underlying3 hj hy0 hy1 hy2 base _ l rfl h (32 - n) (by show Value.int .i64 _ = _; rw [← HE.out]) (by omega) (by rw [← HL.out]; omega) hb ?_; intro v1 w1 O1 g1)
  go_ret
  exact ⟨_, rfl, O1, g1⟩
theorem refsencode_no (s : Sup) (w : World) (hs : s.In) (hk : s.ok = false) :
    Calls Try.prog 26 #[sv s] w fun e w' => e = .returned (.tuple #[.slice none 0 0, .bool false]) ∧ Below w.heap.size w w' := by
  have hc := fun w => refscheck_any s w hs
  rw [hk] at hc
  unfold sv at *
  have HC := Lib.hid hc
  clear hk hc
  go_enter Try.func26, Try.ntmps26
  go_wp2_with (go_at_call 50; refine Calls.mono (HC.out _) ?_; rintro e w2 ⟨rfl, b2⟩)
  go_ret2
  exact ⟨rfl, belT (belA1 (belR _)) b2⟩
theorem refsencode_yes (gn al ad ac bl bd bc : Nat) (run : Bool) (win ep out : Nat) (w : World) (s : Sup) (he : s = ⟨gn, ⟨al, ad, ac⟩, ⟨bl, bd, bc⟩, run, win, ep, out⟩) (hk : s.ok = true) :
    Calls Try.prog 26 #[sv s] w fun e w' => ∃ v, e = .returned (.tuple #[v, .bool true]) ∧ Own w' w.heap.size v s.enc ∧ Below w.heap.size w w' := by
  have hin := Sup.ok_in hk
  obtain ⟨r1, r2, r3, r4, r5⟩ := (Sup.ok_iff s).1 hk
  have r6 := (Sup.ok_more hk).2.2
  have hc := fun w => refscheck_any s w hin
  rw [hk] at hc
  obtain ⟨rb, hrb⟩ : ∃ rb : Nat, run = true ∧ rb = 1 ∨ run = false ∧ rb = 0 := by cases run; exact ⟨0, .inr ⟨rfl, rfl⟩⟩; exact ⟨1, .inl ⟨rfl, rfl⟩⟩
  have HE : Hid (s.enc = sealed ((((([87, 83, 85, 80] ++ [gn / 16777216 % 256, gn / 65536 % 256, gn / 256 % 256, gn % 256]) ++ (Geo.mk al ad ac).bytes) ++ (Geo.mk bl bd bc).bytes) ++ [rb, win % 256, ep / 256 % 256, ep % 256, out % 256]) ++ List.replicate 13 0) []) := by
    show _ = _; rw [he]; rcases hrb with ⟨rfl, rfl⟩ | ⟨rfl, rfl⟩ <;> rfl
  have HRB := Lib.hid hrb
  clear hrb
  subst he
  dsimp only at *
  have g1 : 1 ≤ (gn : Int) := r1.1
  have g2 : (gn : Int) ≤ 2147483647 := r1.2
  have g3 : (ep : Int) ≤ 65535 := r4.2
  have g4 : (out : Int) ≤ 255 := r5.2
  have g5 : (win : Int) ≤ 16 := r6.2
  have HC := Lib.hid hc
  obtain ⟨j0, hj, hy0, hy1, hy2⟩ := info_parts uint8_info
  unfold sv at *
  dsimp only at *
  have kc := fun (w : World) (C : Array Value) (n c : Nat) => Lib.run_convert_bytes_const (P := Try.prog) w 37 5 C n c Try.underlying37 Try.underlying5
  obtain ⟨w0, hw0⟩ : ∃ w0, w0 = w.alloc (.cells #[.int .i64 (gn : Int), .int .i64 (al : Int), .int .i64 (ad : Int), .int .i64 (ac : Int), .int .i64 (bl : Int), .int .i64 (bd : Int), .int .i64 (bc : Int), .bool run, .int .i64 (win : Int), .int .i64 (ep : Int), .int .i64 (out : Int)] 57) := ⟨_, rfl⟩
  have HK : Hid (∀ W, Below w0.heap.size w0 W → W.cell? ⟨w.heap.size, 0, none⟩ = some (.int .i64 (gn : Int)) ∧ W.cell? ⟨w.heap.size, 1, none⟩ = some (.int .i64 (al : Int)) ∧ W.cell? ⟨w.heap.size, 2, none⟩ = some (.int .i64 (ad : Int)) ∧ W.cell? ⟨w.heap.size, 3, none⟩ = some (.int .i64 (ac : Int)) ∧ W.cell? ⟨w.heap.size, 4, none⟩ = some (.int .i64 (bl : Int)) ∧ W.cell? ⟨w.heap.size, 5, none⟩ = some (.int .i64 (bd : Int)) ∧ W.cell? ⟨w.heap.size, 6, none⟩ = some (.int .i64 (bc : Int)) ∧ W.cell? ⟨w.heap.size, 7, none⟩ = some (.bool run) ∧ W.cell? ⟨w.heap.size, 8, none⟩ = some (.int .i64 (win : Int)) ∧ W.cell? ⟨w.heap.size, 9, none⟩ = some (.int .i64 (ep : Int)) ∧ W.cell? ⟨w.heap.size, 10, none⟩ = some (.int .i64 (out : Int))) := by
    intro W hW
    rw [hw0] at hW
    exact box11 hW
  have B0 : Below w.heap.size w w0 := by rw [hw0]; exact belA1 (belR _)
  have z0 : w0.heap.size = w.heap.size + 1 := by rw [hw0]; simp
  have HW0 := Lib.hid hw0
  have Z0 := Lib.hid z0
  clear r1 r2 r3 r4 r5 r6 hin hk hc hw0 z0
  go_enter Try.func26, Try.ntmps26
  go_wp2_with (first
    | (go_at_call 50; rw [← HW0.out]; refine Calls.mono (HC.out _) ?_; rintro e w2 ⟨rfl, b2⟩; obtain ⟨c0, c1, c2, c3, c4, c5, c6, c7, c8, c9, c10⟩ := HK.out _  b2; have d0 := fun o => Lib.cell?_alloc_marked o c0)
    | (go_at_call 38; refine Calls.mono (four_any gn _ g2) ?_; rintro e w9 ⟨gf, rfl, OF, bF⟩)
    | (at_builtin; go_loud (refine wpList_append_full rfl _ _ 37 rfl j0 Try.underlying37 hj hy0 hy1 hy2 _ _ _ [87, 83, 85, 80] rfl ((Byt.lit w2 _ _ [87, 83, 85, 80] rfl rfl rfl (by decide) (by decide)).up bF) _ _ _ _ [gn / 16777216 % 256, gn / 65536 % 256, gn / 256 % 256, gn % 256] rfl OF.byt (by simp) (by simp) ?_); intro v3 w3 O3 g3x))
  have b3 : Below w0.heap.size w0 w3 := belGN (belT (belA1 b2) bF) g3x
  have O3 := own_mono O3 (belT (belA1 b2) bF).size
  obtain ⟨l8, hl8⟩ : ∃ l8, l8 = [87, 83, 85, 80] ++ [gn / 16777216 % 256, gn / 65536 % 256, gn / 256 % 256, gn % 256] := ⟨_, rfl⟩
  have L8 : Hid (l8.length = 8) := by show _ = _; rw [hl8]; rfl
  rw [← hl8] at O3 HE
  have W8 := Lib.hid hl8
  clear hl8 g3x b2 bF OF d0 c0 c1 c2 c3 c4 c5 c6 c7 c8 c9 c10 kc
  go_cut [4] from 15 to 23 (fun v W => ∃ v', v = v' ∧ Own W w0.heap.size v' ((l8 ++ (Geo.mk al ad ac).bytes) ++ (Geo.mk bl bd bc).bytes) ∧ Below w0.heap.size w0 W)
  case first =>
    refine wp_region_held_drew (S := fun W => W.cell? ⟨w.heap.size, 1, none⟩ = some (.int .i64 (al : Int)) ∧ W.cell? ⟨w.heap.size, 2, none⟩ = some (.int .i64 (ad : Int)) ∧ W.cell? ⟨w.heap.size, 3, none⟩ = some (.int .i64 (ac : Int)) ∧ W.cell? ⟨w.heap.size, 4, none⟩ = some (.int .i64 (bl : Int)) ∧ W.cell? ⟨w.heap.size, 5, none⟩ = some (.int .i64 (bd : Int)) ∧ W.cell? ⟨w.heap.size, 6, none⟩ = some (.int .i64 (bc : Int))) (by kernel_rfl) (by obtain ⟨d0, d1, d2, d3, d4, d5, d6, d7, d8, d9, d10⟩ := HK.out _ (by iterate 8 try (first | assumption | apply belDr | apply belAlloc | exact belR _)); exact ⟨d1, d2, d3, d4, d5, d6⟩) (fun hHeld => ?_)
    refine wpAnyH_take (i := 0) (oi := _) (v := ?_) rfl (by kernel_rfl) (by kernel_rfl) (by kernel_rfl) (fun _ _ _ h => h) (Or.inl ⟨by rfl, ?_⟩) (by assumption) ?_
    rotate_left
    · intro w hSw
      (try dsimp only at hSw)
      go_simp
      try with_reducible rfl
    try simp only [Act.put, List.getElem_toArray, List.getElem_cons_zero, List.getElem_cons_succ, List.setIfInBounds_toArray, List.set_cons_zero, List.set_cons_succ]
    refine wpAnyH_take (i := 1) (oi := _) (v := ?_) rfl (by kernel_rfl) (by kernel_rfl) (by kernel_rfl) (fun _ _ _ h => h) (Or.inl ⟨by rfl, ?_⟩) (by assumption) ?_
    rotate_left
    · intro w hSw
      (try dsimp only at hSw)
      go_simp
      try with_reducible rfl
    try simp only [Act.put, List.getElem_toArray, List.getElem_cons_zero, List.getElem_cons_succ, List.setIfInBounds_toArray, List.set_cons_zero, List.set_cons_succ]
    refine wpAnyH_take (i := 2) (oi := _) (v := ?_) rfl (by kernel_rfl) (by kernel_rfl) (by kernel_rfl) (fun _ _ _ h => h) (Or.inl ⟨by rfl, ?_⟩) (by assumption) ?_
    rotate_left
    · intro w hSw
      (try dsimp only at hSw)
      go_simp
      try with_reducible rfl
    try simp only [Act.put, List.getElem_toArray, List.getElem_cons_zero, List.getElem_cons_succ, List.setIfInBounds_toArray, List.set_cons_zero, List.set_cons_succ]
    refine wpAnyH_take (i := 5) (oi := _) (v := ?_) rfl (by kernel_rfl) (by kernel_rfl) (by kernel_rfl) (fun _ _ _ h => h) (Or.inl ⟨by rfl, ?_⟩) (by assumption) ?_
    rotate_left
    · intro w hSw
      (try dsimp only at hSw)
      go_simp
      try with_reducible rfl
    try simp only [Act.put, List.getElem_toArray, List.getElem_cons_zero, List.getElem_cons_succ, List.setIfInBounds_toArray, List.set_cons_zero, List.set_cons_succ]
    refine wpAnyH_take (i := 6) (oi := _) (v := ?_) rfl (by kernel_rfl) (by kernel_rfl) (by kernel_rfl) (fun _ _ _ h => h) (Or.inl ⟨by rfl, ?_⟩) (by assumption) ?_
    rotate_left
    · intro w hSw
      (try dsimp only at hSw)
      go_simp
      try with_reducible rfl
    try simp only [Act.put, List.getElem_toArray, List.getElem_cons_zero, List.getElem_cons_succ, List.setIfInBounds_toArray, List.set_cons_zero, List.set_cons_succ]
    refine wpAnyH_ready (rs := [3]) (by kernel_rfl) (by simp) ?_
    refine AllReadyH.cons (o := _) rfl (fun K hK => ?_) AllReadyH.nil
    go_simp
    refine Calls.mono (refgeom_any al ad ac _) ?_
    rintro e wa ⟨ga, rfl, Oa, ba⟩
    have Ba : Below w0.heap.size w0 wa := belT (by iterate 8 try (first | assumption | apply belDr | apply belAlloc | exact belR _)) ba
    try go_simp
    refine hK.out _ _ (by obtain ⟨d0, d1, d2, d3, d4, d5, d6, d7, d8, d9, d10⟩ := HK.out _ (by iterate 8 try (first | assumption | apply belDr | apply belAlloc | exact belR _)); exact ⟨d1, d2, d3, d4, d5, d6⟩) (fun hHeld => ?_)
    clear hK K
    try simp only [Act.put, List.getElem_toArray, List.getElem_cons_zero, List.getElem_cons_succ, List.setIfInBounds_toArray, List.set_cons_zero, List.set_cons_succ]
    have O3a : Own wa w0.heap.size v3 l8 := O3.up (belT (belDr (belR _)) ba)
    refine wpAnyH_ready (rs := [4]) (by kernel_rfl) (by simp) ?_
    refine AllReadyH.cons (o := _) rfl (fun K hK => ?_) AllReadyH.nil
    rw [if_pos (by rfl)]
    refine wp_append_bytes _ _ 37 rfl j0 Try.underlying37 hj hy0 hy1 hy2 w0.heap.size v3 _ rfl O3a _ _ _ _ _ rfl Oa.byt (by simp [L8.out, Geo.bytes]) Ba.size ?_
    intro v4 w4 Ov4 gw4
    have Bw4 : Below w0.heap.size w0 w4 := belG Ba gw4 (fun g hg => Own.ge O3a g hg)
    refine hK.out _ _ (by obtain ⟨d0, d1, d2, d3, d4, d5, d6, d7, d8, d9, d10⟩ := HK.out _ (by iterate 8 try (first | assumption | apply belDr | apply belAlloc | exact belR _)); exact ⟨d1, d2, d3, d4, d5, d6⟩) (fun hHeld => ?_)
    clear hK K
    try simp only [Act.put, List.getElem_toArray, List.getElem_cons_zero, List.getElem_cons_succ, List.setIfInBounds_toArray, List.set_cons_zero, List.set_cons_succ]
    refine wpAnyH_ready (rs := [7]) (by kernel_rfl) (by simp) ?_
    refine AllReadyH.cons (o := _) rfl (fun K hK => ?_) AllReadyH.nil
    go_simp
    refine Calls.mono (refgeom_any bl bd bc _) ?_
    rintro e wb ⟨gb, rfl, Ob, bb⟩
    have Bb : Below w0.heap.size w0 wb := belT (by iterate 8 try (first | assumption | apply belDr | apply belAlloc | exact belR _)) bb
    try go_simp
    refine hK.out _ _ (by obtain ⟨d0, d1, d2, d3, d4, d5, d6, d7, d8, d9, d10⟩ := HK.out _ (by iterate 8 try (first | assumption | apply belDr | apply belAlloc | exact belR _)); exact ⟨d1, d2, d3, d4, d5, d6⟩) (fun hHeld => ?_)
    clear hK K
    try simp only [Act.put, List.getElem_toArray, List.getElem_cons_zero, List.getElem_cons_succ, List.setIfInBounds_toArray, List.set_cons_zero, List.set_cons_succ]
    have O4b : Own wb w0.heap.size v4 _ := Ov4.up bb
    refine wpAnyH_ready (rs := [8]) (by kernel_rfl) (by simp) ?_
    refine AllReadyH.cons (o := _) rfl (fun K hK => ?_) AllReadyH.nil
    rw [if_pos (by rfl)]
    refine wp_append_bytes _ _ 37 rfl j0 Try.underlying37 hj hy0 hy1 hy2 w0.heap.size v4 _ rfl O4b _ _ _ _ _ rfl Ob.byt (by simp [L8.out, Geo.bytes]) Bb.size ?_
    intro v5 w5 Ov5 gw5
    have Bw5 : Below w0.heap.size w0 w5 := belG Bb gw5 (fun g hg => Own.ge O4b g hg)
    refine hK.out _ _ (by obtain ⟨d0, d1, d2, d3, d4, d5, d6, d7, d8, d9, d10⟩ := HK.out _ (by iterate 8 try (first | assumption | apply belDr | apply belAlloc | exact belR _)); exact ⟨d1, d2, d3, d4, d5, d6⟩) (fun hHeld => ?_)
    clear hK K
    try simp only [Act.put, List.getElem_toArray, List.getElem_cons_zero, List.getElem_cons_succ, List.setIfInBounds_toArray, List.set_cons_zero, List.set_cons_succ]
    refine wpAnyH_take (i := 9) (oi := _) (v := ?_) rfl (by kernel_rfl) (by kernel_rfl) (by kernel_rfl) (fun _ _ _ h => h) (Or.inl ⟨by rfl, ?_⟩) (by assumption) ?_
    rotate_left
    · intro w hSw
      (try dsimp only at hSw)
      go_simp
      try with_reducible rfl
    try simp only [Act.put, List.getElem_toArray, List.getElem_cons_zero, List.getElem_cons_succ, List.setIfInBounds_toArray, List.set_cons_zero, List.set_cons_succ]
    refine wpAnyH_done (by kernel_rfl) ?_ _
    go_wp2
    go_meet
    case rel => exact ⟨v5, rfl, Ov5, Bw5⟩
  obtain ⟨v5, rfl, O5, B5⟩ := hcut
  obtain ⟨l14, hl14⟩ : ∃ l, l = (l8 ++ (Geo.mk al ad ac).bytes) ++ (Geo.mk bl bd bc).bytes := ⟨_, rfl⟩
  have L14 : Hid (l14.length = 14) := by show _ = _; rw [hl14]; simp [L8.out, Geo.bytes]
  rw [← hl14] at O5 HE
  have W14 := Lib.hid hl14
  clear hl14
  obtain ⟨c0, c1, c2, c3, c4, c5, c6, c7, c8, c9, c10⟩ := HK.out _  B5
  have Q5 := O5.byt.shapeN L14.out
  obtain ⟨ao5, cap5, rfl, q5, q5'⟩ := Q5
  have l19 : Hid ((l14 ++ [rb, win % 256, ep / 256 % 256, ep % 256, out % 256]).length = 19) := by show _ = _; rw [List.length_append, L14.out]; rfl
  have rb8 : rb < 256 := by rcases HRB.out with ⟨_, rfl⟩ | ⟨_, rfl⟩ <;> decide
  have hrv : Hid (∀ b : Bool, run = b → rb = if b then 1 else 0) := by intro b hb; rcases HRB.out with ⟨rfl, rfl⟩ | ⟨rfl, rfl⟩ <;> subst hb <;> rfl
  have e1 : Hid (run = true ∧ rb = 1 ∨ run = false ∧ rb = 0) := HRB
  clear HRB hrv
  rcases e1.out with ⟨rfl, rfl⟩ | ⟨rfl, rfl⟩
  · clear e1
    go_wp2_with (first
      | (go_at_call 39; refine Calls.mono (full_any _ 19 _ _ _ w0.heap.size O6 (by decide) B6.size) ?_; rintro e w7 ⟨v7, rfl, O7, g7x⟩; have B7 : Below w0.heap.size w0 w7 := belG B6 g7x (fun g hg => O6.ge g hg))
      | (at_builtin; go_loud (refine wpList_append_bytes rfl (.tmp 26) (.tmp 41) 37 rfl j0 Try.underlying37 hj hy0 hy1 hy2 w0.heap.size _ l14 rfl (O5.up (belA1 (belR _))) _ [1, win % 256, ep / 256 % 256, ep % 256, out % 256] rfl (Byt.lit _ _ _ [1, win % 256, ep / 256 % 256, ep % 256, out % 256] (by simp) rfl (by simp [u8v]; omega) (by intro x hx; simp at hx; omega) (by simp)) (by rw [L14.out]; simp) (by have := B5.size; simp; omega) ?_); intro v6 w6 O6 g6x; have B6 : Below w0.heap.size w0 w6 := belG (belA1 B5) g6x (fun g hg => O5.ge g hg); obtain ⟨ao6, cap6, rfl, q6, q6'⟩ := O6.byt.shapeN l19.out)
      | (go_at_call 28; refine Calls.mono (sealed_any _ _ _ [] _ O7.byt (by rw [List.length_append, l19.out]; rfl) (Parts.nil _) (by simp)) ?_; rintro e w8 ⟨v8, rfl, O8, b8⟩; have B8 : Below w0.heap.size w0 w8 := belT B7 b8))
    go_ret2
    refine ⟨_, rfl, ?_, belT B0 B8⟩
    rw [HE.out]
    exact own_mono O8 (belT B0 B7).size
  · clear e1
    go_wp2_with (first
      | (go_at_call 39; refine Calls.mono (full_any _ 19 _ _ _ w0.heap.size O6 (by decide) B6.size) ?_; rintro e w7 ⟨v7, rfl, O7, g7x⟩; have B7 : Below w0.heap.size w0 w7 := belG B6 g7x (fun g hg => O6.ge g hg))
      | (at_builtin; go_loud (refine wpList_append_bytes rfl (.tmp 26) (.tmp 41) 37 rfl j0 Try.underlying37 hj hy0 hy1 hy2 w0.heap.size _ l14 rfl (O5.up (belA1 (belR _))) _ [0, win % 256, ep / 256 % 256, ep % 256, out % 256] rfl (Byt.lit _ _ _ [0, win % 256, ep / 256 % 256, ep % 256, out % 256] (by simp) rfl (by simp [u8v]; omega) (by intro x hx; simp at hx; omega) (by simp)) (by rw [L14.out]; simp) (by have := B5.size; simp; omega) ?_); intro v6 w6 O6 g6x; have B6 : Below w0.heap.size w0 w6 := belG (belA1 B5) g6x (fun g hg => O5.ge g hg); obtain ⟨ao6, cap6, rfl, q6, q6'⟩ := O6.byt.shapeN l19.out)
      | (go_at_call 28; refine Calls.mono (sealed_any _ _ _ [] _ O7.byt (by rw [List.length_append, l19.out]; rfl) (Parts.nil _) (by simp)) ?_; rintro e w8 ⟨v8, rfl, O8, b8⟩; have B8 : Below w0.heap.size w0 w8 := belT B7 b8))
    go_ret2
    refine ⟨_, rfl, ?_, belT B0 B8⟩
    rw [HE.out]
    exact own_mono O8 (belT B0 B7).size
end Go.Proofs.Ytgnnkglmlopldaa
