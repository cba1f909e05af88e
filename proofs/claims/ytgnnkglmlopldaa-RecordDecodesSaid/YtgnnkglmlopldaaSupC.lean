/- The walks of super.within, super.Check. -/
import Derived.Test.YtgnnkglmlopldaaSup
import Derived.Test.YtgnnkglmlopldaaGeom3
namespace Go.Proofs.Ytgnnkglmlopldaa
open Go.RowKit
set_option linter.unusedVariables false
set_option linter.unusedSimpArgs false
set_option maxRecDepth 100000
set_option maxHeartbeats 4000000

theorem within3_any (n lo hi : Int) (w : World) : Calls Try.prog 44 #[.int .i64 n, .int .i64 lo, .int .i64 hi] w fun e w' => e = .returned (.bool (inB n lo hi)) ∧ w = w' := by
  by_cases h1 : lo ≤ n
  · by_cases h2 : n ≤ hi
    · have e : inB n lo hi = true := (inB_iff _ _ _).2 ⟨h1, h2⟩
      have E := Lib.hid e
      clear e
      go_enter Try.func44, Try.ntmps44
      go_wp2
      go_ret
      exact ⟨ret_bool (by rw [E.out]), rfl⟩
    · have e : inB n lo hi = false := (inB_not _ _ _).2 (by omega)
      have E := Lib.hid e
      clear e
      go_enter Try.func44, Try.ntmps44
      go_wp2
      go_ret
      exact ⟨ret_bool (by rw [E.out]), rfl⟩
  · have e : inB n lo hi = false := (inB_not _ _ _).2 (by omega)
    have E := Lib.hid e
    clear e
    go_enter Try.func44, Try.ntmps44
    go_wp2
    go_ret
    exact ⟨ret_bool (by rw [E.out]), rfl⟩
/-- a Super's value -/
def sv (s : Sup) : Value := .agg #[.int .i64 s.gen, .int .i64 s.a.l, .int .i64 s.a.d, .int .i64 s.a.c, .int .i64 s.b.l, .int .i64 s.b.d, .int .i64 s.b.c, .bool s.run, .int .i64 s.win, .int .i64 s.ep, .int .i64 s.out]
/-- a box of eleven cells, seen later -/
theorem box11 {w w1 : World} {e : TypeId} {fr : Nat × Nat} {v0 v1 v2 v3 v4 v5 v6 v7 v8 v9 v10 : Value} (h : Below (w.alloc (.cells #[v0, v1, v2, v3, v4, v5, v6, v7, v8, v9, v10] e fr)).heap.size (w.alloc (.cells #[v0, v1, v2, v3, v4, v5, v6, v7, v8, v9, v10] e fr)) w1) :
    w1.cell? ⟨w.heap.size, 0, none⟩ = some v0 ∧ w1.cell? ⟨w.heap.size, 1, none⟩ = some v1 ∧ w1.cell? ⟨w.heap.size, 2, none⟩ = some v2 ∧ w1.cell? ⟨w.heap.size, 3, none⟩ = some v3 ∧ w1.cell? ⟨w.heap.size, 4, none⟩ = some v4 ∧ w1.cell? ⟨w.heap.size, 5, none⟩ = some v5 ∧ w1.cell? ⟨w.heap.size, 6, none⟩ = some v6 ∧ w1.cell? ⟨w.heap.size, 7, none⟩ = some v7 ∧ w1.cell? ⟨w.heap.size, 8, none⟩ = some v8 ∧ w1.cell? ⟨w.heap.size, 9, none⟩ = some v9 ∧ w1.cell? ⟨w.heap.size, 10, none⟩ = some v10 :=
  ⟨box_up h 0 rfl, box_up h 1 rfl, box_up h 2 rfl, box_up h 3 rfl, box_up h 4 rfl, box_up h 5 rfl, box_up h 6 rfl, box_up h 7 rfl, box_up h 8 rfl, box_up h 9 rfl, box_up h 10 rfl⟩
theorem scheck_0 (s : Sup) (w : World) (hs : s.In) (er : Int) (her : Hid (er = 1)) (hG : Hid (inB s.gen 1 2147483647 = false)) :
    Calls Try.prog 23 #[sv s] w fun e w' => e = .returned (.int .i64 er) ∧ Below w.heap.size w w' := by
  unfold sv
  go_enter Try.func23, Try.ntmps23
  go_wp2_with (first
    | (go_at_call_of 44 (Value.int .i64 s.gen); refine Calls.mono (within3_any _ _ _ _) ?_; rw [hG.out]; rintro e wa ⟨rfl, rfl⟩))
  go_ret
  exact ⟨ret_i64 her.out.symm, belA1 (belR _)⟩
theorem scheck_1 (s : Sup) (w : World) (hs : s.In) (er : Int) (her : Hid (er = 1)) (hG : Hid (inB s.gen 1 2147483647 = true)) (hA : Hid (s.a.ok = false)) :
    Calls Try.prog 23 #[sv s] w fun e w' => e = .returned (.int .i64 er) ∧ Below w.heap.size w w' := by
  unfold sv
  have hAe : Hid ((Geo.mk s.a.l s.a.d s.a.c).err = 1) := Geo.err_no hA.out
  go_enter Try.func23, Try.ntmps23
  go_wp2_with (first
    | (go_at_call_of 44 (Value.int .i64 s.gen); refine Calls.mono (within3_any _ _ _ _) ?_; rw [hG.out]; rintro e wa ⟨rfl, rfl⟩)
    | (go_at_call 45; refine Calls.mono (gcheck_any s.a.l s.a.d s.a.c _ hs.a.l hs.a.d hs.a.c) ?_; rw [hAe.out]; rintro e w2 ⟨rfl, b2⟩; obtain ⟨c0, c1, c2, c3, c4, c5, c6, c7, c8, c9, c10⟩ := box11 b2))
  go_ret
  exact ⟨ret_i64 her.out.symm, belT (belA1 (belR _)) b2⟩
theorem scheck_2 (s : Sup) (w : World) (hs : s.In) (er : Int) (her : Hid (er = 1)) (hG : Hid (inB s.gen 1 2147483647 = true)) (hA : Hid (s.a.ok = true)) (hR : s.run = true) (hC : Hid (s.a.can s.b = false)) :
    Calls Try.prog 23 #[sv s] w fun e w' => e = .returned (.int .i64 er) ∧ Below w.heap.size w w' := by
  unfold sv
  have hAe : Hid ((Geo.mk s.a.l s.a.d s.a.c).err = 0) := Geo.err_yes hA.out
  have hCe : Hid ((Geo.mk s.a.l s.a.d s.a.c).can (Geo.mk s.b.l s.b.d s.b.c) = false) := hC.out
  go_enter Try.func23, Try.ntmps23
  go_wp2_with (first
    | (go_at_call_of 44 (Value.int .i64 s.gen); refine Calls.mono (within3_any _ _ _ _) ?_; rw [hG.out]; rintro e wa ⟨rfl, rfl⟩)
    | (go_at_call 45; refine Calls.mono (gcheck_any s.a.l s.a.d s.a.c _ hs.a.l hs.a.d hs.a.c) ?_; rw [hAe.out]; rintro e w2 ⟨rfl, b2⟩; obtain ⟨c0, c1, c2, c3, c4, c5, c6, c7, c8, c9, c10⟩ := box11 b2)
    | (go_at_call 46; refine Calls.mono (can_any s.a.l s.a.d s.a.c s.b.l s.b.d s.b.c _ hs.a.l hs.a.d hs.a.c hs.b.l hs.b.d hs.b.c) ?_; rw [hCe.out]; rintro e w3 ⟨rfl, b3⟩; have b2 := belT b2 b3; clear c0 c1 c2 c3 c4 c5 c6 c7 c8 c9 c10; obtain ⟨c0, c1, c2, c3, c4, c5, c6, c7, c8, c9, c10⟩ := box11 b2))
  go_ret
  exact ⟨ret_i64 her.out.symm, belT (belA1 (belR _)) b2⟩
theorem scheck_3 (s : Sup) (w : World) (hs : s.In) (er : Int) (her : Hid (er = 1)) (hG : Hid (inB s.gen 1 2147483647 = true)) (hA : Hid (s.a.ok = true)) (hR : s.run = true) (hC : Hid (s.a.can s.b = true)) (hW : Hid (inB s.win 0 16 = false)) :
    Calls Try.prog 23 #[sv s] w fun e w' => e = .returned (.int .i64 er) ∧ Below w.heap.size w w' := by
  unfold sv
  have hAe : Hid ((Geo.mk s.a.l s.a.d s.a.c).err = 0) := Geo.err_yes hA.out
  have hCe : Hid ((Geo.mk s.a.l s.a.d s.a.c).can (Geo.mk s.b.l s.b.d s.b.c) = true) := hC.out
  go_enter Try.func23, Try.ntmps23
  go_wp2_with (first
    | (go_at_call_of 44 (Value.int .i64 s.gen); refine Calls.mono (within3_any _ _ _ _) ?_; rw [hG.out]; rintro e wa ⟨rfl, rfl⟩)
    | (go_at_call 45; refine Calls.mono (gcheck_any s.a.l s.a.d s.a.c _ hs.a.l hs.a.d hs.a.c) ?_; rw [hAe.out]; rintro e w2 ⟨rfl, b2⟩; obtain ⟨c0, c1, c2, c3, c4, c5, c6, c7, c8, c9, c10⟩ := box11 b2)
    | (go_at_call 46; refine Calls.mono (can_any s.a.l s.a.d s.a.c s.b.l s.b.d s.b.c _ hs.a.l hs.a.d hs.a.c hs.b.l hs.b.d hs.b.c) ?_; rw [hCe.out]; rintro e w3 ⟨rfl, b3⟩; have b2 := belT b2 b3; clear c0 c1 c2 c3 c4 c5 c6 c7 c8 c9 c10; obtain ⟨c0, c1, c2, c3, c4, c5, c6, c7, c8, c9, c10⟩ := box11 b2)
    | (go_at_call_of 44 (Value.int .i64 s.win); refine Calls.mono (within3_any _ _ _ _) ?_; rw [hW.out]; rintro e wa ⟨rfl, rfl⟩))
  go_ret
  exact ⟨ret_i64 her.out.symm, belT (belA1 (belR _)) b2⟩
theorem scheck_4 (s : Sup) (w : World) (hs : s.In) (er : Int) (her : Hid (er = 1)) (hG : Hid (inB s.gen 1 2147483647 = true)) (hA : Hid (s.a.ok = true)) (hR : s.run = true) (hC : Hid (s.a.can s.b = true)) (hW : Hid (inB s.win 0 16 = true)) (hE : Hid (inB s.ep 0 65535 = false)) :
    Calls Try.prog 23 #[sv s] w fun e w' => e = .returned (.int .i64 er) ∧ Below w.heap.size w w' := by
  unfold sv
  have hAe : Hid ((Geo.mk s.a.l s.a.d s.a.c).err = 0) := Geo.err_yes hA.out
  have hCe : Hid ((Geo.mk s.a.l s.a.d s.a.c).can (Geo.mk s.b.l s.b.d s.b.c) = true) := hC.out
  go_enter Try.func23, Try.ntmps23
  go_wp2_with (first
    | (go_at_call_of 44 (Value.int .i64 s.gen); refine Calls.mono (within3_any _ _ _ _) ?_; rw [hG.out]; rintro e wa ⟨rfl, rfl⟩)
    | (go_at_call 45; refine Calls.mono (gcheck_any s.a.l s.a.d s.a.c _ hs.a.l hs.a.d hs.a.c) ?_; rw [hAe.out]; rintro e w2 ⟨rfl, b2⟩; obtain ⟨c0, c1, c2, c3, c4, c5, c6, c7, c8, c9, c10⟩ := box11 b2)
    | (go_at_call 46; refine Calls.mono (can_any s.a.l s.a.d s.a.c s.b.l s.b.d s.b.c _ hs.a.l hs.a.d hs.a.c hs.b.l hs.b.d hs.b.c) ?_; rw [hCe.out]; rintro e w3 ⟨rfl, b3⟩; have b2 := belT b2 b3; clear c0 c1 c2 c3 c4 c5 c6 c7 c8 c9 c10; obtain ⟨c0, c1, c2, c3, c4, c5, c6, c7, c8, c9, c10⟩ := box11 b2)
    | (go_at_call_of 44 (Value.int .i64 s.win); refine Calls.mono (within3_any _ _ _ _) ?_; rw [hW.out]; rintro e wa ⟨rfl, rfl⟩)
    | (go_at_call_of 44 (Value.int .i64 s.ep); refine Calls.mono (within3_any _ _ _ _) ?_; rw [hE.out]; rintro e wa ⟨rfl, rfl⟩))
  go_ret
  exact ⟨ret_i64 her.out.symm, belT (belA1 (belR _)) b2⟩
theorem scheck_5 (s : Sup) (w : World) (hs : s.In) (er : Int) (her : Hid (er = 1)) (hG : Hid (inB s.gen 1 2147483647 = true)) (hA : Hid (s.a.ok = true)) (hR : s.run = true) (hC : Hid (s.a.can s.b = true)) (hW : Hid (inB s.win 0 16 = true)) (hE : Hid (inB s.ep 0 65535 = true)) (hO : Hid (inB s.out 0 255 = false)) :
    Calls Try.prog 23 #[sv s] w fun e w' => e = .returned (.int .i64 er) ∧ Below w.heap.size w w' := by
  unfold sv
  have hAe : Hid ((Geo.mk s.a.l s.a.d s.a.c).err = 0) := Geo.err_yes hA.out
  have hCe : Hid ((Geo.mk s.a.l s.a.d s.a.c).can (Geo.mk s.b.l s.b.d s.b.c) = true) := hC.out
  go_enter Try.func23, Try.ntmps23
  go_wp2_with (first
    | (go_at_call_of 44 (Value.int .i64 s.gen); refine Calls.mono (within3_any _ _ _ _) ?_; rw [hG.out]; rintro e wa ⟨rfl, rfl⟩)
    | (go_at_call 45; refine Calls.mono (gcheck_any s.a.l s.a.d s.a.c _ hs.a.l hs.a.d hs.a.c) ?_; rw [hAe.out]; rintro e w2 ⟨rfl, b2⟩; obtain ⟨c0, c1, c2, c3, c4, c5, c6, c7, c8, c9, c10⟩ := box11 b2)
    | (go_at_call 46; refine Calls.mono (can_any s.a.l s.a.d s.a.c s.b.l s.b.d s.b.c _ hs.a.l hs.a.d hs.a.c hs.b.l hs.b.d hs.b.c) ?_; rw [hCe.out]; rintro e w3 ⟨rfl, b3⟩; have b2 := belT b2 b3; clear c0 c1 c2 c3 c4 c5 c6 c7 c8 c9 c10; obtain ⟨c0, c1, c2, c3, c4, c5, c6, c7, c8, c9, c10⟩ := box11 b2)
    | (go_at_call_of 44 (Value.int .i64 s.win); refine Calls.mono (within3_any _ _ _ _) ?_; rw [hW.out]; rintro e wa ⟨rfl, rfl⟩)
    | (go_at_call_of 44 (Value.int .i64 s.ep); refine Calls.mono (within3_any _ _ _ _) ?_; rw [hE.out]; rintro e wa ⟨rfl, rfl⟩)
    | (go_at_call_of 44 (Value.int .i64 s.out); refine Calls.mono (within3_any _ _ _ _) ?_; rw [hO.out]; rintro e wa ⟨rfl, rfl⟩))
  go_ret
  exact ⟨ret_i64 her.out.symm, belT (belA1 (belR _)) b2⟩
theorem scheck_6 (s : Sup) (w : World) (hs : s.In) (er : Int) (her : Hid (er = 0)) (hG : Hid (inB s.gen 1 2147483647 = true)) (hA : Hid (s.a.ok = true)) (hR : s.run = true) (hC : Hid (s.a.can s.b = true)) (hW : Hid (inB s.win 0 16 = true)) (hE : Hid (inB s.ep 0 65535 = true)) (hO : Hid (inB s.out 0 255 = true)) :
    Calls Try.prog 23 #[sv s] w fun e w' => e = .returned (.int .i64 er) ∧ Below w.heap.size w w' := by
  unfold sv
  have hAe : Hid ((Geo.mk s.a.l s.a.d s.a.c).err = 0) := Geo.err_yes hA.out
  have hCe : Hid ((Geo.mk s.a.l s.a.d s.a.c).can (Geo.mk s.b.l s.b.d s.b.c) = true) := hC.out
  go_enter Try.func23, Try.ntmps23
  go_wp2_with (first
    | (go_at_call_of 44 (Value.int .i64 s.gen); refine Calls.mono (within3_any _ _ _ _) ?_; rw [hG.out]; rintro e wa ⟨rfl, rfl⟩)
    | (go_at_call 45; refine Calls.mono (gcheck_any s.a.l s.a.d s.a.c _ hs.a.l hs.a.d hs.a.c) ?_; rw [hAe.out]; rintro e w2 ⟨rfl, b2⟩; obtain ⟨c0, c1, c2, c3, c4, c5, c6, c7, c8, c9, c10⟩ := box11 b2)
    | (go_at_call 46; refine Calls.mono (can_any s.a.l s.a.d s.a.c s.b.l s.b.d s.b.c _ hs.a.l hs.a.d hs.a.c hs.b.l hs.b.d hs.b.c) ?_; rw [hCe.out]; rintro e w3 ⟨rfl, b3⟩; have b2 := belT b2 b3; clear c0 c1 c2 c3 c4 c5 c6 c7 c8 c9 c10; obtain ⟨c0, c1, c2, c3, c4, c5, c6, c7, c8, c9, c10⟩ := box11 b2)
    | (go_at_call_of 44 (Value.int .i64 s.win); refine Calls.mono (within3_any _ _ _ _) ?_; rw [hW.out]; rintro e wa ⟨rfl, rfl⟩)
    | (go_at_call_of 44 (Value.int .i64 s.ep); refine Calls.mono (within3_any _ _ _ _) ?_; rw [hE.out]; rintro e wa ⟨rfl, rfl⟩)
    | (go_at_call_of 44 (Value.int .i64 s.out); refine Calls.mono (within3_any _ _ _ _) ?_; rw [hO.out]; rintro e wa ⟨rfl, rfl⟩))
  go_ret
  exact ⟨ret_i64 her.out.symm, belT (belA1 (belR _)) b2⟩
theorem scheck_7 (s : Sup) (w : World) (hs : s.In) (er : Int) (her : Hid (er = 1)) (hG : Hid (inB s.gen 1 2147483647 = true)) (hA : Hid (s.a.ok = true)) (hR : s.run = false) (hQ : Hid (s.b.same Geo.zero = false)) :
    Calls Try.prog 23 #[sv s] w fun e w' => e = .returned (.int .i64 er) ∧ Below w.heap.size w w' := by
  unfold sv
  have kq := geq_run s.b.l s.b.d s.b.c 0 0 0
  rw [show (Geo.mk s.b.l s.b.d s.b.c).same (Geo.mk 0 0 0) = false from hQ.out] at kq
  have hAe : Hid ((Geo.mk s.a.l s.a.d s.a.c).err = 0) := Geo.err_yes hA.out
  go_enter Try.func23, Try.ntmps23
  go_wp2_with (first
    | (go_at_call_of 44 (Value.int .i64 s.gen); refine Calls.mono (within3_any _ _ _ _) ?_; rw [hG.out]; rintro e wa ⟨rfl, rfl⟩)
    | (go_at_call 45; refine Calls.mono (gcheck_any s.a.l s.a.d s.a.c _ hs.a.l hs.a.d hs.a.c) ?_; rw [hAe.out]; rintro e w2 ⟨rfl, b2⟩; obtain ⟨c0, c1, c2, c3, c4, c5, c6, c7, c8, c9, c10⟩ := box11 b2))
  go_ret
  exact ⟨ret_i64 her.out.symm, belT (belA1 (belR _)) b2⟩
theorem scheck_8 (s : Sup) (w : World) (hs : s.In) (er : Int) (her : Hid (er = 1)) (hG : Hid (inB s.gen 1 2147483647 = true)) (hA : Hid (s.a.ok = true)) (hR : s.run = false) (hQ : Hid (s.b.same Geo.zero = true)) (hZ : Hid ((s.win == 0) = false)) :
    Calls Try.prog 23 #[sv s] w fun e w' => e = .returned (.int .i64 er) ∧ Below w.heap.size w w' := by
  unfold sv
  have kq := geq_run s.b.l s.b.d s.b.c 0 0 0
  rw [show (Geo.mk s.b.l s.b.d s.b.c).same (Geo.mk 0 0 0) = true from hQ.out] at kq
  have kz : (s.win != 0) = true := by rw [bne, hZ.out]; rfl
  have hAe : Hid ((Geo.mk s.a.l s.a.d s.a.c).err = 0) := Geo.err_yes hA.out
  go_enter Try.func23, Try.ntmps23
  go_wp2_with (first
    | (go_at_call_of 44 (Value.int .i64 s.gen); refine Calls.mono (within3_any _ _ _ _) ?_; rw [hG.out]; rintro e wa ⟨rfl, rfl⟩)
    | (go_at_call 45; refine Calls.mono (gcheck_any s.a.l s.a.d s.a.c _ hs.a.l hs.a.d hs.a.c) ?_; rw [hAe.out]; rintro e w2 ⟨rfl, b2⟩; obtain ⟨c0, c1, c2, c3, c4, c5, c6, c7, c8, c9, c10⟩ := box11 b2))
  go_ret
  exact ⟨ret_i64 her.out.symm, belT (belA1 (belR _)) b2⟩
theorem scheck_9 (s : Sup) (w : World) (hs : s.In) (er : Int) (her : Hid (er = 1)) (hG : Hid (inB s.gen 1 2147483647 = true)) (hA : Hid (s.a.ok = true)) (hR : s.run = false) (hQ : Hid (s.b.same Geo.zero = true)) (hZ : Hid ((s.win == 0) = true)) (hE : Hid (inB s.ep 0 65535 = false)) :
    Calls Try.prog 23 #[sv s] w fun e w' => e = .returned (.int .i64 er) ∧ Below w.heap.size w w' := by
  unfold sv
  have kq := geq_run s.b.l s.b.d s.b.c 0 0 0
  rw [show (Geo.mk s.b.l s.b.d s.b.c).same (Geo.mk 0 0 0) = true from hQ.out] at kq
  have kz : (s.win != 0) = false := by rw [bne, hZ.out]; rfl
  have hAe : Hid ((Geo.mk s.a.l s.a.d s.a.c).err = 0) := Geo.err_yes hA.out
  go_enter Try.func23, Try.ntmps23
  go_wp2_with (first
    | (go_at_call_of 44 (Value.int .i64 s.gen); refine Calls.mono (within3_any _ _ _ _) ?_; rw [hG.out]; rintro e wa ⟨rfl, rfl⟩)
    | (go_at_call 45; refine Calls.mono (gcheck_any s.a.l s.a.d s.a.c _ hs.a.l hs.a.d hs.a.c) ?_; rw [hAe.out]; rintro e w2 ⟨rfl, b2⟩; obtain ⟨c0, c1, c2, c3, c4, c5, c6, c7, c8, c9, c10⟩ := box11 b2)
    | (go_at_call_of 44 (Value.int .i64 s.ep); refine Calls.mono (within3_any _ _ _ _) ?_; rw [hE.out]; rintro e wa ⟨rfl, rfl⟩))
  go_ret
  exact ⟨ret_i64 her.out.symm, belT (belA1 (belR _)) b2⟩
theorem scheck_10 (s : Sup) (w : World) (hs : s.In) (er : Int) (her : Hid (er = 1)) (hG : Hid (inB s.gen 1 2147483647 = true)) (hA : Hid (s.a.ok = true)) (hR : s.run = false) (hQ : Hid (s.b.same Geo.zero = true)) (hZ : Hid ((s.win == 0) = true)) (hE : Hid (inB s.ep 0 65535 = true)) (hO : Hid (inB s.out 0 255 = false)) :
    Calls Try.prog 23 #[sv s] w fun e w' => e = .returned (.int .i64 er) ∧ Below w.heap.size w w' := by
  unfold sv
  have kq := geq_run s.b.l s.b.d s.b.c 0 0 0
  rw [show (Geo.mk s.b.l s.b.d s.b.c).same (Geo.mk 0 0 0) = true from hQ.out] at kq
  have kz : (s.win != 0) = false := by rw [bne, hZ.out]; rfl
  have hAe : Hid ((Geo.mk s.a.l s.a.d s.a.c).err = 0) := Geo.err_yes hA.out
  go_enter Try.func23, Try.ntmps23
  go_wp2_with (first
    | (go_at_call_of 44 (Value.int .i64 s.gen); refine Calls.mono (within3_any _ _ _ _) ?_; rw [hG.out]; rintro e wa ⟨rfl, rfl⟩)
    | (go_at_call 45; refine Calls.mono (gcheck_any s.a.l s.a.d s.a.c _ hs.a.l hs.a.d hs.a.c) ?_; rw [hAe.out]; rintro e w2 ⟨rfl, b2⟩; obtain ⟨c0, c1, c2, c3, c4, c5, c6, c7, c8, c9, c10⟩ := box11 b2)
    | (go_at_call_of 44 (Value.int .i64 s.ep); refine Calls.mono (within3_any _ _ _ _) ?_; rw [hE.out]; rintro e wa ⟨rfl, rfl⟩)
    | (go_at_call_of 44 (Value.int .i64 s.out); refine Calls.mono (within3_any _ _ _ _) ?_; rw [hO.out]; rintro e wa ⟨rfl, rfl⟩))
  go_ret
  exact ⟨ret_i64 her.out.symm, belT (belA1 (belR _)) b2⟩
theorem scheck_11 (s : Sup) (w : World) (hs : s.In) (er : Int) (her : Hid (er = 0)) (hG : Hid (inB s.gen 1 2147483647 = true)) (hA : Hid (s.a.ok = true)) (hR : s.run = false) (hQ : Hid (s.b.same Geo.zero = true)) (hZ : Hid ((s.win == 0) = true)) (hE : Hid (inB s.ep 0 65535 = true)) (hO : Hid (inB s.out 0 255 = true)) :
    Calls Try.prog 23 #[sv s] w fun e w' => e = .returned (.int .i64 er) ∧ Below w.heap.size w w' := by
  unfold sv
  have kq := geq_run s.b.l s.b.d s.b.c 0 0 0
  rw [show (Geo.mk s.b.l s.b.d s.b.c).same (Geo.mk 0 0 0) = true from hQ.out] at kq
  have kz : (s.win != 0) = false := by rw [bne, hZ.out]; rfl
  have hAe : Hid ((Geo.mk s.a.l s.a.d s.a.c).err = 0) := Geo.err_yes hA.out
  go_enter Try.func23, Try.ntmps23
  go_wp2_with (first
    | (go_at_call_of 44 (Value.int .i64 s.gen); refine Calls.mono (within3_any _ _ _ _) ?_; rw [hG.out]; rintro e wa ⟨rfl, rfl⟩)
    | (go_at_call 45; refine Calls.mono (gcheck_any s.a.l s.a.d s.a.c _ hs.a.l hs.a.d hs.a.c) ?_; rw [hAe.out]; rintro e w2 ⟨rfl, b2⟩; obtain ⟨c0, c1, c2, c3, c4, c5, c6, c7, c8, c9, c10⟩ := box11 b2)
    | (go_at_call_of 44 (Value.int .i64 s.ep); refine Calls.mono (within3_any _ _ _ _) ?_; rw [hE.out]; rintro e wa ⟨rfl, rfl⟩)
    | (go_at_call_of 44 (Value.int .i64 s.out); refine Calls.mono (within3_any _ _ _ _) ?_; rw [hO.out]; rintro e wa ⟨rfl, rfl⟩))
  go_ret
  exact ⟨ret_i64 her.out.symm, belT (belA1 (belR _)) b2⟩
theorem scheck_any (s : Sup) (w : World) (hs : s.In) :
    Calls Try.prog 23 #[sv s] w fun e w' => e = .returned (.int .i64 s.err) ∧ Below w.heap.size w w' := by
  cases hG : inB s.gen 1 2147483647 with
  | false =>
    exact scheck_0 s w hs _ (Lib.hid (Sup.err_no (by unfold Sup.ok Sup.okRun; simp [hG]))) (Lib.hid hG)
  | true =>
    cases hA : s.a.ok with
    | false =>
      exact scheck_1 s w hs _ (Lib.hid (Sup.err_no (by unfold Sup.ok Sup.okRun; simp [hG, hA]))) (Lib.hid hG) (Lib.hid hA)
    | true =>
      cases hR : s.run with
      | false =>
        cases hQ : s.b.same Geo.zero with
        | false =>
          exact scheck_7 s w hs _ (Lib.hid (Sup.err_no (by unfold Sup.ok Sup.okRun; simp [hG, hA, hR, hQ]))) (Lib.hid hG) (Lib.hid hA) hR (Lib.hid hQ)
        | true =>
          cases hZ : (s.win == 0) with
          | false =>
            exact scheck_8 s w hs _ (Lib.hid (Sup.err_no (by unfold Sup.ok Sup.okRun; simp [hG, hA, hR, hQ, hZ]))) (Lib.hid hG) (Lib.hid hA) hR (Lib.hid hQ) (Lib.hid hZ)
          | true =>
            cases hE : inB s.ep 0 65535 with
            | false =>
              exact scheck_9 s w hs _ (Lib.hid (Sup.err_no (by unfold Sup.ok Sup.okRun; simp [hG, hA, hR, hQ, hZ, hE]))) (Lib.hid hG) (Lib.hid hA) hR (Lib.hid hQ) (Lib.hid hZ) (Lib.hid hE)
            | true =>
              cases hO : inB s.out 0 255 with
              | false =>
                exact scheck_10 s w hs _ (Lib.hid (Sup.err_no (by unfold Sup.ok Sup.okRun; simp [hG, hA, hR, hQ, hZ, hE, hO]))) (Lib.hid hG) (Lib.hid hA) hR (Lib.hid hQ) (Lib.hid hZ) (Lib.hid hE) (Lib.hid hO)
              | true =>
                exact scheck_11 s w hs _ (Lib.hid (Sup.err_yes (by unfold Sup.ok Sup.okRun; simp [hG, hA, hR, hQ, hZ, hE, hO]))) (Lib.hid hG) (Lib.hid hA) hR (Lib.hid hQ) (Lib.hid hZ) (Lib.hid hE) (Lib.hid hO)
      | true =>
        cases hC : s.a.can s.b with
        | false =>
          exact scheck_2 s w hs _ (Lib.hid (Sup.err_no (by unfold Sup.ok Sup.okRun; simp [hG, hA, hR, hC]))) (Lib.hid hG) (Lib.hid hA) hR (Lib.hid hC)
        | true =>
          cases hW : inB s.win 0 16 with
          | false =>
            exact scheck_3 s w hs _ (Lib.hid (Sup.err_no (by unfold Sup.ok Sup.okRun; simp [hG, hA, hR, hC, hW]))) (Lib.hid hG) (Lib.hid hA) hR (Lib.hid hC) (Lib.hid hW)
          | true =>
            cases hE : inB s.ep 0 65535 with
            | false =>
              exact scheck_4 s w hs _ (Lib.hid (Sup.err_no (by unfold Sup.ok Sup.okRun; simp [hG, hA, hR, hC, hW, hE]))) (Lib.hid hG) (Lib.hid hA) hR (Lib.hid hC) (Lib.hid hW) (Lib.hid hE)
            | true =>
              cases hO : inB s.out 0 255 with
              | false =>
                exact scheck_5 s w hs _ (Lib.hid (Sup.err_no (by unfold Sup.ok Sup.okRun; simp [hG, hA, hR, hC, hW, hE, hO]))) (Lib.hid hG) (Lib.hid hA) hR (Lib.hid hC) (Lib.hid hW) (Lib.hid hE) (Lib.hid hO)
              | true =>
                exact scheck_6 s w hs _ (Lib.hid (Sup.err_yes (by unfold Sup.ok Sup.okRun; simp [hG, hA, hR, hC, hW, hE, hO]))) (Lib.hid hG) (Lib.hid hA) hR (Lib.hid hC) (Lib.hid hW) (Lib.hid hE) (Lib.hid hO)
end Go.Proofs.Ytgnnkglmlopldaa
