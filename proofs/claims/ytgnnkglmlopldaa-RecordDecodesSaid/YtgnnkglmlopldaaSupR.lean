/- The walks of the reference's CheckSuper, four, geom, full, EncodeSuper. -/
import Derived.Test.YtgnnkglmlopldaaSupE
import Derived.Test.YtgnnkglmlopldaaGeomS
import Derived.Test.YtgnnkglmlopldaaCrcRef
import Derived.Deep.CutRange
namespace Go.Proofs.Ytgnnkglmlopldaa
open Go.RowKit C
set_option linter.unusedVariables false
set_option linter.unusedSimpArgs false
set_option maxRecDepth 100000
set_option maxHeartbeats 4000000

theorem refscheck_0 (s : Sup) (w : World) (hs : s.In) (r : Bool) (hr : Hid (r = false)) (g1 : s.gen < 1) :
    Calls Try.prog 50 #[sv s] w fun e w' => e = .returned (.bool r) ∧ Below w.heap.size w w' := by
  unfold sv
  go_enter Try.func50, Try.ntmps50
  go_wp2_with fail
  go_ret
  exact ⟨ret_bool (by first | exact hr.out.symm | (rw [hr.out]; simp; omega)), belA1 (belR _)⟩
theorem refscheck_1 (s : Sup) (w : World) (hs : s.In) (r : Bool) (hr : Hid (r = false)) (g1 : 1 ≤ s.gen) (g2 : 2147483648 ≤ s.gen) :
    Calls Try.prog 50 #[sv s] w fun e w' => e = .returned (.bool r) ∧ Below w.heap.size w w' := by
  unfold sv
  go_enter Try.func50, Try.ntmps50
  go_wp2_with fail
  go_ret
  exact ⟨ret_bool (by first | exact hr.out.symm | (rw [hr.out]; simp; omega)), belA1 (belR _)⟩
theorem refscheck_2 (s : Sup) (w : World) (hs : s.In) (r : Bool) (hr : Hid (r = false)) (g1 : 1 ≤ s.gen) (g2 : s.gen ≤ 2147483647) (hA : Hid (s.a.ok = false)) :
    Calls Try.prog 50 #[sv s] w fun e w' => e = .returned (.bool r) ∧ Below w.heap.size w w' := by
  unfold sv
  have hAe : Hid ((Geo.mk s.a.l s.a.d s.a.c).ok = false) := hA.out
  go_enter Try.func50, Try.ntmps50
  go_wp2_with (first
    | (go_at_call 64; refine Calls.mono (refgcheck_any s.a.l s.a.d s.a.c _ hs.a.l hs.a.d hs.a.c) ?_; rw [hAe.out]; rintro e w2 ⟨rfl, b2⟩; obtain ⟨c0, c1, c2, c3, c4, c5, c6, c7, c8, c9, c10⟩ := box11 b2))
  go_ret
  exact ⟨ret_bool (by first | exact hr.out.symm | (rw [hr.out]; simp; omega)), belT (belA1 (belR _)) b2⟩
theorem refscheck_3 (s : Sup) (w : World) (hs : s.In) (r : Bool) (hr : Hid (r = false)) (g1 : 1 ≤ s.gen) (g2 : s.gen ≤ 2147483647) (hA : Hid (s.a.ok = true)) (e1 : s.ep < 0) :
    Calls Try.prog 50 #[sv s] w fun e w' => e = .returned (.bool r) ∧ Below w.heap.size w w' := by
  unfold sv
  have hAe : Hid ((Geo.mk s.a.l s.a.d s.a.c).ok = true) := hA.out
  go_enter Try.func50, Try.ntmps50
  go_wp2_with (first
    | (go_at_call 64; refine Calls.mono (refgcheck_any s.a.l s.a.d s.a.c _ hs.a.l hs.a.d hs.a.c) ?_; rw [hAe.out]; rintro e w2 ⟨rfl, b2⟩; obtain ⟨c0, c1, c2, c3, c4, c5, c6, c7, c8, c9, c10⟩ := box11 b2))
  go_ret
  exact ⟨ret_bool (by first | exact hr.out.symm | (rw [hr.out]; simp; omega)), belT (belA1 (belR _)) b2⟩
theorem refscheck_4 (s : Sup) (w : World) (hs : s.In) (r : Bool) (hr : Hid (r = false)) (g1 : 1 ≤ s.gen) (g2 : s.gen ≤ 2147483647) (hA : Hid (s.a.ok = true)) (e1 : 0 ≤ s.ep) (e2 : 65535 < s.ep) :
    Calls Try.prog 50 #[sv s] w fun e w' => e = .returned (.bool r) ∧ Below w.heap.size w w' := by
  unfold sv
  have hAe : Hid ((Geo.mk s.a.l s.a.d s.a.c).ok = true) := hA.out
  go_enter Try.func50, Try.ntmps50
  go_wp2_with (first
    | (go_at_call 64; refine Calls.mono (refgcheck_any s.a.l s.a.d s.a.c _ hs.a.l hs.a.d hs.a.c) ?_; rw [hAe.out]; rintro e w2 ⟨rfl, b2⟩; obtain ⟨c0, c1, c2, c3, c4, c5, c6, c7, c8, c9, c10⟩ := box11 b2))
  go_ret
  exact ⟨ret_bool (by first | exact hr.out.symm | (rw [hr.out]; simp; omega)), belT (belA1 (belR _)) b2⟩
theorem refscheck_5 (s : Sup) (w : World) (hs : s.In) (r : Bool) (hr : Hid (r = false)) (g1 : 1 ≤ s.gen) (g2 : s.gen ≤ 2147483647) (hA : Hid (s.a.ok = true)) (e1 : 0 ≤ s.ep) (e2 : s.ep ≤ 65535) (o1 : s.out < 0) :
    Calls Try.prog 50 #[sv s] w fun e w' => e = .returned (.bool r) ∧ Below w.heap.size w w' := by
  unfold sv
  have hAe : Hid ((Geo.mk s.a.l s.a.d s.a.c).ok = true) := hA.out
  go_enter Try.func50, Try.ntmps50
  go_wp2_with (first
    | (go_at_call 64; refine Calls.mono (refgcheck_any s.a.l s.a.d s.a.c _ hs.a.l hs.a.d hs.a.c) ?_; rw [hAe.out]; rintro e w2 ⟨rfl, b2⟩; obtain ⟨c0, c1, c2, c3, c4, c5, c6, c7, c8, c9, c10⟩ := box11 b2))
  go_ret
  exact ⟨ret_bool (by first | exact hr.out.symm | (rw [hr.out]; simp; omega)), belT (belA1 (belR _)) b2⟩
theorem refscheck_6 (s : Sup) (w : World) (hs : s.In) (r : Bool) (hr : Hid (r = false)) (g1 : 1 ≤ s.gen) (g2 : s.gen ≤ 2147483647) (hA : Hid (s.a.ok = true)) (e1 : 0 ≤ s.ep) (e2 : s.ep ≤ 65535) (o1 : 0 ≤ s.out) (o2 : 255 < s.out) :
    Calls Try.prog 50 #[sv s] w fun e w' => e = .returned (.bool r) ∧ Below w.heap.size w w' := by
  unfold sv
  have hAe : Hid ((Geo.mk s.a.l s.a.d s.a.c).ok = true) := hA.out
  go_enter Try.func50, Try.ntmps50
  go_wp2_with (first
    | (go_at_call 64; refine Calls.mono (refgcheck_any s.a.l s.a.d s.a.c _ hs.a.l hs.a.d hs.a.c) ?_; rw [hAe.out]; rintro e w2 ⟨rfl, b2⟩; obtain ⟨c0, c1, c2, c3, c4, c5, c6, c7, c8, c9, c10⟩ := box11 b2))
  go_ret
  exact ⟨ret_bool (by first | exact hr.out.symm | (rw [hr.out]; simp; omega)), belT (belA1 (belR _)) b2⟩
theorem refscheck_7 (s : Sup) (w : World) (hs : s.In) (r : Bool) (hr : Hid (r = false)) (g1 : 1 ≤ s.gen) (g2 : s.gen ≤ 2147483647) (hA : Hid (s.a.ok = true)) (e1 : 0 ≤ s.ep) (e2 : s.ep ≤ 65535) (o1 : 0 ≤ s.out) (o2 : s.out ≤ 255) (hR : s.run = true) (hC : Hid (s.a.can s.b = false)) :
    Calls Try.prog 50 #[sv s] w fun e w' => e = .returned (.bool r) ∧ Below w.heap.size w w' := by
  unfold sv
  have hAe : Hid ((Geo.mk s.a.l s.a.d s.a.c).ok = true) := hA.out
  have hCe : Hid ((Geo.mk s.a.l s.a.d s.a.c).can (Geo.mk s.b.l s.b.d s.b.c) = false) := hC.out
  go_enter Try.func50, Try.ntmps50
  go_wp2_with (first
    | (go_at_call 64; refine Calls.mono (refgcheck_any s.a.l s.a.d s.a.c _ hs.a.l hs.a.d hs.a.c) ?_; rw [hAe.out]; rintro e w2 ⟨rfl, b2⟩; obtain ⟨c0, c1, c2, c3, c4, c5, c6, c7, c8, c9, c10⟩ := box11 b2)
    | (go_at_call 65; refine Calls.mono (refcan_any s.a.l s.a.d s.a.c s.b.l s.b.d s.b.c _ hs.a.l hs.a.d hs.a.c hs.b.l hs.b.d hs.b.c) ?_; rw [hCe.out]; rintro e w3 ⟨rfl, b3⟩; have b2 := belT b2 b3; clear c0 c1 c2 c3 c4 c5 c6 c7 c8 c9 c10; obtain ⟨c0, c1, c2, c3, c4, c5, c6, c7, c8, c9, c10⟩ := box11 b2))
  go_ret
  exact ⟨ret_bool (by first | exact hr.out.symm | (rw [hr.out]; simp; omega)), belT (belA1 (belR _)) b2⟩
theorem refscheck_8 (s : Sup) (w : World) (hs : s.In) (r : Bool) (hr : Hid (r = false)) (g1 : 1 ≤ s.gen) (g2 : s.gen ≤ 2147483647) (hA : Hid (s.a.ok = true)) (e1 : 0 ≤ s.ep) (e2 : s.ep ≤ 65535) (o1 : 0 ≤ s.out) (o2 : s.out ≤ 255) (hR : s.run = true) (hC : Hid (s.a.can s.b = true)) (w1 : s.win < 0) :
    Calls Try.prog 50 #[sv s] w fun e w' => e = .returned (.bool r) ∧ Below w.heap.size w w' := by
  unfold sv
  have hAe : Hid ((Geo.mk s.a.l s.a.d s.a.c).ok = true) := hA.out
  have hCe : Hid ((Geo.mk s.a.l s.a.d s.a.c).can (Geo.mk s.b.l s.b.d s.b.c) = true) := hC.out
  go_enter Try.func50, Try.ntmps50
  go_wp2_with (first
    | (go_at_call 64; refine Calls.mono (refgcheck_any s.a.l s.a.d s.a.c _ hs.a.l hs.a.d hs.a.c) ?_; rw [hAe.out]; rintro e w2 ⟨rfl, b2⟩; obtain ⟨c0, c1, c2, c3, c4, c5, c6, c7, c8, c9, c10⟩ := box11 b2)
    | (go_at_call 65; refine Calls.mono (refcan_any s.a.l s.a.d s.a.c s.b.l s.b.d s.b.c _ hs.a.l hs.a.d hs.a.c hs.b.l hs.b.d hs.b.c) ?_; rw [hCe.out]; rintro e w3 ⟨rfl, b3⟩; have b2 := belT b2 b3; clear c0 c1 c2 c3 c4 c5 c6 c7 c8 c9 c10; obtain ⟨c0, c1, c2, c3, c4, c5, c6, c7, c8, c9, c10⟩ := box11 b2))
  go_ret
  exact ⟨ret_bool (by first | exact hr.out.symm | (rw [hr.out]; simp; omega)), belT (belA1 (belR _)) b2⟩
theorem refscheck_9 (s : Sup) (w : World) (hs : s.In) (r : Bool) (hr : Hid (r = false)) (g1 : 1 ≤ s.gen) (g2 : s.gen ≤ 2147483647) (hA : Hid (s.a.ok = true)) (e1 : 0 ≤ s.ep) (e2 : s.ep ≤ 65535) (o1 : 0 ≤ s.out) (o2 : s.out ≤ 255) (hR : s.run = true) (hC : Hid (s.a.can s.b = true)) (w1 : 0 ≤ s.win) (w2 : 16 < s.win) :
    Calls Try.prog 50 #[sv s] w fun e w' => e = .returned (.bool r) ∧ Below w.heap.size w w' := by
  unfold sv
  have hAe : Hid ((Geo.mk s.a.l s.a.d s.a.c).ok = true) := hA.out
  have hCe : Hid ((Geo.mk s.a.l s.a.d s.a.c).can (Geo.mk s.b.l s.b.d s.b.c) = true) := hC.out
  go_enter Try.func50, Try.ntmps50
  go_wp2_with (first
    | (go_at_call 64; refine Calls.mono (refgcheck_any s.a.l s.a.d s.a.c _ hs.a.l hs.a.d hs.a.c) ?_; rw [hAe.out]; rintro e w2 ⟨rfl, b2⟩; obtain ⟨c0, c1, c2, c3, c4, c5, c6, c7, c8, c9, c10⟩ := box11 b2)
    | (go_at_call 65; refine Calls.mono (refcan_any s.a.l s.a.d s.a.c s.b.l s.b.d s.b.c _ hs.a.l hs.a.d hs.a.c hs.b.l hs.b.d hs.b.c) ?_; rw [hCe.out]; rintro e w3 ⟨rfl, b3⟩; have b2 := belT b2 b3; clear c0 c1 c2 c3 c4 c5 c6 c7 c8 c9 c10; obtain ⟨c0, c1, c2, c3, c4, c5, c6, c7, c8, c9, c10⟩ := box11 b2))
  go_ret
  exact ⟨ret_bool (by first | exact hr.out.symm | (rw [hr.out]; simp; omega)), belT (belA1 (belR _)) b2⟩
theorem refscheck_10 (s : Sup) (w : World) (hs : s.In) (r : Bool) (hr : Hid (r = true)) (g1 : 1 ≤ s.gen) (g2 : s.gen ≤ 2147483647) (hA : Hid (s.a.ok = true)) (e1 : 0 ≤ s.ep) (e2 : s.ep ≤ 65535) (o1 : 0 ≤ s.out) (o2 : s.out ≤ 255) (hR : s.run = true) (hC : Hid (s.a.can s.b = true)) (w1 : 0 ≤ s.win) (w2 : s.win ≤ 16) :
    Calls Try.prog 50 #[sv s] w fun e w' => e = .returned (.bool r) ∧ Below w.heap.size w w' := by
  unfold sv
  have hAe : Hid ((Geo.mk s.a.l s.a.d s.a.c).ok = true) := hA.out
  have hCe : Hid ((Geo.mk s.a.l s.a.d s.a.c).can (Geo.mk s.b.l s.b.d s.b.c) = true) := hC.out
  go_enter Try.func50, Try.ntmps50
  go_wp2_with (first
    | (go_at_call 64; refine Calls.mono (refgcheck_any s.a.l s.a.d s.a.c _ hs.a.l hs.a.d hs.a.c) ?_; rw [hAe.out]; rintro e w2 ⟨rfl, b2⟩; obtain ⟨c0, c1, c2, c3, c4, c5, c6, c7, c8, c9, c10⟩ := box11 b2)
    | (go_at_call 65; refine Calls.mono (refcan_any s.a.l s.a.d s.a.c s.b.l s.b.d s.b.c _ hs.a.l hs.a.d hs.a.c hs.b.l hs.b.d hs.b.c) ?_; rw [hCe.out]; rintro e w3 ⟨rfl, b3⟩; have b2 := belT b2 b3; clear c0 c1 c2 c3 c4 c5 c6 c7 c8 c9 c10; obtain ⟨c0, c1, c2, c3, c4, c5, c6, c7, c8, c9, c10⟩ := box11 b2))
  go_ret
  exact ⟨ret_bool (by first | exact hr.out.symm | (rw [hr.out]; simp; omega)), belT (belA1 (belR _)) b2⟩
theorem refscheck_11 (s : Sup) (w : World) (hs : s.In) (r : Bool) (hr : Hid (r = false)) (g1 : 1 ≤ s.gen) (g2 : s.gen ≤ 2147483647) (hA : Hid (s.a.ok = true)) (e1 : 0 ≤ s.ep) (e2 : s.ep ≤ 65535) (o1 : 0 ≤ s.out) (o2 : s.out ≤ 255) (hR : s.run = false) (hQ : Hid (s.b.same Geo.zero = false)) :
    Calls Try.prog 50 #[sv s] w fun e w' => e = .returned (.bool r) ∧ Below w.heap.size w w' := by
  unfold sv
  have kq := geq_run s.b.l s.b.d s.b.c 0 0 0
  rw [show (Geo.mk s.b.l s.b.d s.b.c).same (Geo.mk 0 0 0) = false from hQ.out] at kq
  have hAe : Hid ((Geo.mk s.a.l s.a.d s.a.c).ok = true) := hA.out
  go_enter Try.func50, Try.ntmps50
  go_wp2_with (first
    | (go_at_call 64; refine Calls.mono (refgcheck_any s.a.l s.a.d s.a.c _ hs.a.l hs.a.d hs.a.c) ?_; rw [hAe.out]; rintro e w2 ⟨rfl, b2⟩; obtain ⟨c0, c1, c2, c3, c4, c5, c6, c7, c8, c9, c10⟩ := box11 b2))
  go_ret
  exact ⟨ret_bool (by first | exact hr.out.symm | (rw [hr.out]; simp; omega)), belT (belA1 (belR _)) b2⟩
theorem refscheck_12 (s : Sup) (w : World) (hs : s.In) (r : Bool) (hr : Hid (r = false)) (g1 : 1 ≤ s.gen) (g2 : s.gen ≤ 2147483647) (hA : Hid (s.a.ok = true)) (e1 : 0 ≤ s.ep) (e2 : s.ep ≤ 65535) (o1 : 0 ≤ s.out) (o2 : s.out ≤ 255) (hR : s.run = false) (hQ : Hid (s.b.same Geo.zero = true)) (hZ : (s.win == 0) = false) :
    Calls Try.prog 50 #[sv s] w fun e w' => e = .returned (.bool r) ∧ Below w.heap.size w w' := by
  unfold sv
  have kq := geq_run s.b.l s.b.d s.b.c 0 0 0
  rw [show (Geo.mk s.b.l s.b.d s.b.c).same (Geo.mk 0 0 0) = true from hQ.out] at kq
  have hAe : Hid ((Geo.mk s.a.l s.a.d s.a.c).ok = true) := hA.out
  go_enter Try.func50, Try.ntmps50
  go_wp2_with (first
    | (go_at_call 64; refine Calls.mono (refgcheck_any s.a.l s.a.d s.a.c _ hs.a.l hs.a.d hs.a.c) ?_; rw [hAe.out]; rintro e w2 ⟨rfl, b2⟩; obtain ⟨c0, c1, c2, c3, c4, c5, c6, c7, c8, c9, c10⟩ := box11 b2))
  go_ret
  exact ⟨ret_bool (by first | exact hr.out.symm | (rw [hr.out]; simp; omega)), belT (belA1 (belR _)) b2⟩
theorem refscheck_13 (s : Sup) (w : World) (hs : s.In) (r : Bool) (hr : Hid (r = true)) (g1 : 1 ≤ s.gen) (g2 : s.gen ≤ 2147483647) (hA : Hid (s.a.ok = true)) (e1 : 0 ≤ s.ep) (e2 : s.ep ≤ 65535) (o1 : 0 ≤ s.out) (o2 : s.out ≤ 255) (hR : s.run = false) (hQ : Hid (s.b.same Geo.zero = true)) (hZ : (s.win == 0) = true) :
    Calls Try.prog 50 #[sv s] w fun e w' => e = .returned (.bool r) ∧ Below w.heap.size w w' := by
  unfold sv
  have kq := geq_run s.b.l s.b.d s.b.c 0 0 0
  rw [show (Geo.mk s.b.l s.b.d s.b.c).same (Geo.mk 0 0 0) = true from hQ.out] at kq
  have hAe : Hid ((Geo.mk s.a.l s.a.d s.a.c).ok = true) := hA.out
  go_enter Try.func50, Try.ntmps50
  go_wp2_with (first
    | (go_at_call 64; refine Calls.mono (refgcheck_any s.a.l s.a.d s.a.c _ hs.a.l hs.a.d hs.a.c) ?_; rw [hAe.out]; rintro e w2 ⟨rfl, b2⟩; obtain ⟨c0, c1, c2, c3, c4, c5, c6, c7, c8, c9, c10⟩ := box11 b2))
  go_ret
  exact ⟨ret_bool (by first | exact hr.out.symm | (rw [hr.out]; simp; omega)), belT (belA1 (belR _)) b2⟩
theorem refscheck_any (s : Sup) (w : World) (hs : s.In) :
    Calls Try.prog 50 #[sv s] w fun e w' => e = .returned (.bool s.ok) ∧ Below w.heap.size w w' := by
  by_cases g1 : s.gen < 1
  · exact refscheck_0 s w hs _ (Lib.hid (by rw [Bool.eq_false_iff, ne_eq, Sup.ok_iff]; unfold Sup.okRun; first | omega | (simp [inB_iff]; done) | (simp [inB_iff]; omega) | (trace_state; fail))) g1
  · have g1 : 1 ≤ s.gen := by omega
    by_cases g2 : 2147483648 ≤ s.gen
    · exact refscheck_1 s w hs _ (Lib.hid (by rw [Bool.eq_false_iff, ne_eq, Sup.ok_iff]; unfold Sup.okRun; first | omega | (simp [inB_iff]; done) | (simp [inB_iff]; omega) | (trace_state; fail))) g1 g2
    · have g2 : s.gen ≤ 2147483647 := by omega
      cases hA : s.a.ok with
      | false =>
        exact refscheck_2 s w hs _ (Lib.hid (by rw [Bool.eq_false_iff, ne_eq, Sup.ok_iff]; unfold Sup.okRun; first | omega | (simp [hA, inB_iff]; done) | (simp [hA, inB_iff]; omega) | (trace_state; fail))) g1 g2 (Lib.hid hA)
      | true =>
        by_cases e1 : s.ep < 0
        · exact refscheck_3 s w hs _ (Lib.hid (by rw [Bool.eq_false_iff, ne_eq, Sup.ok_iff]; unfold Sup.okRun; first | omega | (simp [hA, inB_iff]; done) | (simp [hA, inB_iff]; omega) | (trace_state; fail))) g1 g2 (Lib.hid hA) e1
        · have e1 : 0 ≤ s.ep := by omega
          by_cases e2 : 65535 < s.ep
          · exact refscheck_4 s w hs _ (Lib.hid (by rw [Bool.eq_false_iff, ne_eq, Sup.ok_iff]; unfold Sup.okRun; first | omega | (simp [hA, inB_iff]; done) | (simp [hA, inB_iff]; omega) | (trace_state; fail))) g1 g2 (Lib.hid hA) e1 e2
          · have e2 : s.ep ≤ 65535 := by omega
            by_cases o1 : s.out < 0
            · exact refscheck_5 s w hs _ (Lib.hid (by rw [Bool.eq_false_iff, ne_eq, Sup.ok_iff]; unfold Sup.okRun; first | omega | (simp [hA, inB_iff]; done) | (simp [hA, inB_iff]; omega) | (trace_state; fail))) g1 g2 (Lib.hid hA) e1 e2 o1
            · have o1 : 0 ≤ s.out := by omega
              by_cases o2 : 255 < s.out
              · exact refscheck_6 s w hs _ (Lib.hid (by rw [Bool.eq_false_iff, ne_eq, Sup.ok_iff]; unfold Sup.okRun; first | omega | (simp [hA, inB_iff]; done) | (simp [hA, inB_iff]; omega) | (trace_state; fail))) g1 g2 (Lib.hid hA) e1 e2 o1 o2
              · have o2 : s.out ≤ 255 := by omega
                cases hR : s.run with
                | false =>
                  cases hQ : s.b.same Geo.zero with
                  | false =>
                    exact refscheck_11 s w hs _ (Lib.hid (by rw [Bool.eq_false_iff, ne_eq, Sup.ok_iff]; unfold Sup.okRun; first | omega | (simp [hA, hR, hQ, inB_iff]; done) | (simp [hA, hR, hQ, inB_iff]; omega) | (trace_state; fail))) g1 g2 (Lib.hid hA) e1 e2 o1 o2 hR (Lib.hid hQ)
                  | true =>
                    cases hZ : (s.win == 0) with
                    | false =>
                      exact refscheck_12 s w hs _ (Lib.hid (by rw [Bool.eq_false_iff, ne_eq, Sup.ok_iff]; unfold Sup.okRun; first | omega | (simp [hA, hR, hQ, hZ, inB_iff]; done) | (simp [hA, hR, hQ, hZ, inB_iff]; omega) | (trace_state; fail))) g1 g2 (Lib.hid hA) e1 e2 o1 o2 hR (Lib.hid hQ) hZ
                    | true =>
                      exact refscheck_13 s w hs _ (Lib.hid (by rw [Sup.ok_iff]; unfold Sup.okRun; first | (simp [hA, hR, hQ, hZ, inB_iff]; done) | (simp [hA, hR, hQ, hZ, inB_iff]; omega) | omega)) g1 g2 (Lib.hid hA) e1 e2 o1 o2 hR (Lib.hid hQ) hZ
                | true =>
                  cases hC : s.a.can s.b with
                  | false =>
                    exact refscheck_7 s w hs _ (Lib.hid (by rw [Bool.eq_false_iff, ne_eq, Sup.ok_iff]; unfold Sup.okRun; first | omega | (simp [hA, hR, hC, inB_iff]; done) | (simp [hA, hR, hC, inB_iff]; omega) | (trace_state; fail))) g1 g2 (Lib.hid hA) e1 e2 o1 o2 hR (Lib.hid hC)
                  | true =>
                    by_cases w1 : s.win < 0
                    · exact refscheck_8 s w hs _ (Lib.hid (by rw [Bool.eq_false_iff, ne_eq, Sup.ok_iff]; unfold Sup.okRun; first | omega | (simp [hA, hR, hC, inB_iff]; done) | (simp [hA, hR, hC, inB_iff]; omega) | (trace_state; fail))) g1 g2 (Lib.hid hA) e1 e2 o1 o2 hR (Lib.hid hC) w1
                    · have w1 : 0 ≤ s.win := by omega
                      by_cases w2 : 16 < s.win
                      · exact refscheck_9 s w hs _ (Lib.hid (by rw [Bool.eq_false_iff, ne_eq, Sup.ok_iff]; unfold Sup.okRun; first | omega | (simp [hA, hR, hC, inB_iff]; done) | (simp [hA, hR, hC, inB_iff]; omega) | (trace_state; fail))) g1 g2 (Lib.hid hA) e1 e2 o1 o2 hR (Lib.hid hC) w1 w2
                      · have w2 : s.win ≤ 16 := by omega
                        exact refscheck_10 s w hs _ (Lib.hid (by rw [Sup.ok_iff]; unfold Sup.okRun; first | (simp [hA, hR, hC, inB_iff]; done) | (simp [hA, hR, hC, inB_iff]; omega) | omega)) g1 g2 (Lib.hid hA) e1 e2 o1 o2 hR (Lib.hid hC) w1 w2
end Go.Proofs.Ytgnnkglmlopldaa
