/- The walk of wattlelaw11.Same: are records alike? -/
import Derived.Test.YtenjpldinnbcbaaRecM
import Derived.Test.YtenjpldinnbcbaaKeep
namespace Go.Proofs.Ytenjpldinnbcbaa
open Go.RowKit C
set_option linter.unusedVariables false
set_option linter.unusedSimpArgs false
set_option maxRecDepth 100000
set_option maxHeartbeats 2000000

theorem RI.ext_iff' (x y : RI) : x = y ↔ x.d = y.d ∧ x.a = y.a ∧ x.b = y.b := by
  cases x; cases y; simp
instance RI.dec : DecidableEq RI := fun x y => if h : x.d = y.d ∧ x.a = y.a ∧ x.b = y.b then isTrue ((RI.ext_iff' x y).2 h) else isFalse fun e => h ((RI.ext_iff' x y).1 e)
def rsame (s : Int) (l : List RI) (t : Int) (m : List RI) : Bool := decide (s = t ∧ l = m)
theorem rsame_any (s t : Int) (v u : Value) (l m : List RI) (w : World) (h : Items w v l) (h' : Items w u m) (hs : i64b s) (ht : i64b t) :
    Calls Try.prog 34 #[.agg #[.int .i64 s, v], .agg #[.int .i64 t, u]] w fun e w' => e = .returned (.bool (rsame s l t m)) ∧ Below w.heap.size w w' := by
  obtain ⟨s1, s2⟩ := hs
  obtain ⟨t1, t2⟩ := ht
  have HA := Lib.hid h
  have HB := Lib.hid h'
  obtain ⟨ao, cap, rfl, hc1, hc2, _⟩ := h.shape
  obtain ⟨ao', cap', rfl, hc1', hc2', _⟩ := h'.shape
  obtain ⟨n, hn⟩ : ∃ n, n = l.length := ⟨_, rfl⟩
  obtain ⟨n', hn'⟩ : ∃ n, n = m.length := ⟨_, rfl⟩
  have HN := Lib.hid hn
  have HN' := Lib.hid hn'
  rw [← hn] at HA hc1 ⊢
  rw [← hn'] at HB hc1' ⊢
  clear h h' hn hn'
  obtain ⟨w0, hw0⟩ : ∃ w0, w0 = (w.alloc (.cells #[.int .i64 s, .slice ao n cap] 59)).alloc (.cells #[.int .i64 t, .slice ao' n' cap'] 59) := ⟨_, rfl⟩
  have HK : Hid (∀ W, Below w0.heap.size w0 W → W.cell? ⟨w.heap.size, 0, none⟩ = some (.int .i64 s) ∧ W.cell? ⟨w.heap.size, 1, none⟩ = some (.slice ao n cap) ∧ W.cell? ⟨w.heap.size + 1, 0, none⟩ = some (.int .i64 t) ∧ W.cell? ⟨w.heap.size + 1, 1, none⟩ = some (.slice ao' n' cap')) := by
    intro W hW
    rw [hw0] at hW
    have e := box_up hW 0 rfl
    have e' := box_up hW 1 rfl
    simp only [World.size_alloc] at e e'
    exact ⟨box_up2 hW 0 rfl, box_up2 hW 1 rfl, e, e'⟩
  have B0 : Below w.heap.size w w0 := by rw [hw0]; exact belA2 (belR _)
  have HW0 := Lib.hid hw0
  clear hw0
  by_cases c : s = t ∧ n = n'
  · obtain ⟨rfl, rfl⟩ := c
    go_enter Try.func34, Try.ntmps34
    go_wp2
    go_loopw [25] (fun i W => ∃ k : Nat, k ≤ n ∧ i = .int .i64 k ∧ Hid (l.take k = m.take k) ∧ Below w0.heap.size w0 W) (fun i _ => n - (intOf i).toNat)
    case atStart => exact ⟨0, by omega, rfl, Lib.hid rfl, by rw [← HW0.out]; exact belR _⟩
    case round =>
      obtain ⟨k, hk, rfl, hall, B⟩ := hrel
      obtain ⟨x0, x1, x2, x3⟩ := HK.out _ B
      by_cases hlt : k < n
      · obtain ⟨b, off, x, ux, rfl, hbl, hx, hit⟩ := Items.get HA.out hlt
        obtain ⟨b', off', y, uy, rfl, hbl', hy, hit'⟩ := Items.get HB.out hlt
        obtain ⟨e0, e1, e2, ex, i1, i2⟩ := hit.up (belT B0 B) hbl
        obtain ⟨f0, f1, f2, ey, i3, i4⟩ := hit'.up (belT B0 B) hbl'
        obtain ⟨au, cu, rfl, _, _⟩ := ex.shape
        obtain ⟨aw, cw, rfl, _, _⟩ := ey.shape
        obtain ⟨xd, xa, xb⟩ := x
        obtain ⟨yd, ya, yb⟩ := y
        dsimp only at *
        obtain ⟨n1, hn1⟩ : ∃ n1, n1 = xb.length := ⟨_, rfl⟩
        obtain ⟨n2, hn2⟩ : ∃ n2, n2 = yb.length := ⟨_, rfl⟩
        rw [← hn1] at e2 ex
        rw [← hn2] at f2 ey
        have EX := Lib.hid ex
        have EY := Lib.hid ey
        obtain ⟨i1a, i1b⟩ := i1
        obtain ⟨i2a, i2b⟩ := i2
        obtain ⟨i3a, i3b⟩ := i3
        obtain ⟨i4a, i4b⟩ := i4
        clear hit hit' ex ey hn1 hn2
        have g0 := fun o => Lib.cell?_alloc_marked o f0
        have g1 := fun o => Lib.cell?_alloc_marked o f1
        have g2 := fun o => Lib.cell?_alloc_marked o f2
        have y2 := fun o => Lib.cell?_alloc_marked o x2
        have y3 := fun o => Lib.cell?_alloc_marked o x3
        have HNE : Hid (l = m → (RI.mk xd xa xb) = ⟨yd, ya, yb⟩) := by
          intro e
          have h9 := hx.out
          rw [e, hy.out] at h9
          exact (Option.some.inj h9).symm
        obtain ⟨b1, hb1⟩ : ∃ b1, (xd != yd) = b1 := ⟨_, rfl⟩
        obtain ⟨b2, hb2⟩ : ∃ b2, (xa != ya) = b2 := ⟨_, rfl⟩
        have HB1 := Lib.hid hb1
        have HB2 := Lib.hid hb2
        have hF : ∀ (P : Prop), ¬ P → (P = (s = s ∧ l = m)) → rsame s l s m = false := fun P h e => by unfold rsame; rw [decide_eq_false_iff_not, ← e]; exact h
        cases b1 with
        | true =>
          go_wp2
          go_ret
          refine ⟨ret_bool (Eq.symm ?_), belT B0 (belT B (belA2 (belR _)))⟩
          unfold rsame
          rw [decide_eq_false_iff_not]
          rintro ⟨_, e⟩
          have h9 := ((RI.ext_iff' _ _).1 (HNE.out e)).1
          have h10 := HB1.out
          simp at h10 h9
          exact h10 h9
        | false =>
          cases b2 with
          | true =>
            go_wp2
            go_ret
            refine ⟨ret_bool (Eq.symm ?_), belT B0 (belT B (belA2 (belR _)))⟩
            unfold rsame
            rw [decide_eq_false_iff_not]
            rintro ⟨_, e⟩
            have h9 := ((RI.ext_iff' _ _).1 (HNE.out e)).2.1
            have h10 := HB2.out
            simp at h10 h9
            exact h10 h9
          | false =>
            go_wp2_with fail
            refine Calls.mono (same_any _ _ xb yb _ (EX.out.up (belA2 (belR _))) (EY.out.up (belA2 (belR _)))) ?_
            obtain ⟨bs, hbs⟩ : ∃ bs, decide (xb = yb) = bs := ⟨_, rfl⟩
            have HBS := Lib.hid hbs
            rw [hbs]
            rintro e w5 ⟨rfl, d5⟩
            have B5 := belT B (belT (belA2 (belR _)) (d5.below _))
            clear hbs
            cases bs with
            | true =>
              go_wp2
              go_roundw
              case rel =>
                refine ⟨k + 1, by omega, by go_num, Lib.hid ?_, B5⟩
                have h1 : xd = yd := by have := HB1.out; simpa using this
                have h2 : xa = ya := by have := HB2.out; simpa using this
                have h3 : xb = yb := of_decide_eq_true HBS.out
                subst h1; subst h2; subst h3
                rw [take_succ_get hx.out, take_succ_get hy.out, hall.out]
              case measure => simp [intOf]; omega
            | false =>
              go_wp2
              go_ret
              refine ⟨ret_bool (Eq.symm ?_), belT B0 B5⟩
              unfold rsame
              rw [decide_eq_false_iff_not]
              rintro ⟨_, e⟩
              have h9 := ((RI.ext_iff' _ _).1 (HNE.out e)).2.2
              exact (of_decide_eq_false HBS.out) h9
      · go_wp2
        go_ret
        refine ⟨ret_bool (Eq.symm ?_), belT B0 B⟩
        unfold rsame
        rw [decide_eq_true_iff]
        have h9 := hall.out
        rw [List.take_of_length_le (by rw [← HN.out]; omega), List.take_of_length_le (by rw [← HN'.out]; omega)] at h9
        exact ⟨rfl, h9⟩
  · have hno : rsame s l t m = false := by
      unfold rsame
      rw [decide_eq_false_iff_not]
      rintro ⟨h1, h2⟩
      exact c ⟨h1, by rw [HN.out, HN'.out, h2]⟩
    rw [hno]
    clear hno
    obtain ⟨b1, hb1⟩ : ∃ b1, (s != t) = b1 := ⟨_, rfl⟩
    have HB1 := Lib.hid hb1
    go_enter Try.func34, Try.ntmps34
    cases b1 with
    | true =>
      clear c
      go_wp2
      go_ret
      exact ⟨rfl, belA2 (belR _)⟩
    | false =>
      have h1 : s = t := by simpa using hb1
      have h2 : ((n : Int) != (n' : Int)) = true := by rw [bne_iff_ne]; exact fun e => c ⟨h1, by omega⟩
      clear c h1
      go_wp2
      go_ret
      exact ⟨rfl, belA2 (belR _)⟩
end Go.Proofs.Ytenjpldinnbcbaa
