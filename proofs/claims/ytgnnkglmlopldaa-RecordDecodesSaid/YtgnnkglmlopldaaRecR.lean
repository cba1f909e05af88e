/- The walk of the reference's CheckRecord. -/
import Derived.Test.YtgnnkglmlopldaaRecM
namespace Go.Proofs.Ytgnnkglmlopldaa
open Go.RowKit C
set_option linter.unusedVariables false
set_option linter.unusedSimpArgs false
set_option maxRecDepth 100000
set_option maxHeartbeats 4000000

theorem hit_step {l : List RI} {j : Nat} {y x : RI} (h : l[j]? = some y) : RI.hit (l.take (j + 1)) x = (RI.hit (l.take j) x || y.at x) := by
  unfold RI.hit
  rw [take_succ_get h, List.any_append]
  simp
theorem refcheck_any (s : Int) (v : Value) (l : List RI) (w : World) (hs : i64b s) (h : Items w v l) :
    Calls Try.prog 37 #[.int .i64 s, v] w fun e w' => e = .returned (.bool (rok s l)) ∧ Below w.heap.size w w' := by
  have h' := Lib.hid h
  obtain ⟨ao, cap, rfl, hc1, hc2, _⟩ := h.shape
  obtain ⟨s1, s2⟩ := hs
  clear h
  obtain ⟨n, hn⟩ : ∃ n, n = l.length := ⟨_, rfl⟩
  have HN := Lib.hid hn
  rw [← hn] at h' ⊢
  rw [← hn] at hc1
  clear hn
  by_cases c : (1 ≤ s ∧ s ≤ 2147483647) ∧ n ≤ 3
  · obtain ⟨⟨c1, c2⟩, c3⟩ := c
    have HE : Hid (rok s l = RI.good [] l) := by
      show _ = _
      unfold rok
      rw [(inB_iff _ _ _).2 ⟨c1, c2⟩, decide_eq_true (by rw [← HN.out]; exact c3)]; rfl
    go_enter Try.func37, Try.ntmps37
    go_wp2
    go_loopw [22] (fun i w' => ∃ k : Nat, k ≤ n ∧ i = .int .i64 k ∧ Hid (RI.good [] l = RI.good (l.take k) (l.drop k)) ∧ Below w.heap.size w w') (fun i _ => n - (intOf i).toNat)
    case atStart => exact ⟨0, Nat.zero_le _, rfl, Lib.hid rfl, belR _⟩
    case round =>
      obtain ⟨k, hk, rfl, hall, B⟩ := hrel
      by_cases hlt : k < n
      · obtain ⟨b, off, x, u, rfl, hbl, hx, hit⟩ := Items.get h'.out hlt
        obtain ⟨e0, e1, e2, hy, hi⟩ := hit.up B hbl
        obtain ⟨au, cu, rfl, hu1, hu2⟩ := hy.shape
        obtain ⟨xd, xa, xb⟩ := x
        dsimp only at *
        obtain ⟨xn, hxn⟩ : ∃ xn, xn = xb.length := ⟨_, rfl⟩
        rw [← hxn] at e2 hu1
        have hF : Hid ((RI.mk xd xa xb).fine = true ↔ (0 ≤ xd ∧ xd ≤ 7) ∧ (36 ≤ xa ∧ xa ≤ 51) ∧ xn = 32) := by show _ ↔ _; rw [hxn]; exact RI.fine_iff _
        have hy := Lib.hid hy
        obtain ⟨⟨i1, i2⟩, i3, i4⟩ := hi
        clear hxn hit
        obtain ⟨w1, hw1⟩ : ∃ w1, w1 = wr := ⟨_, rfl⟩
        subst hw1
        by_cases cf : ((0 ≤ xd ∧ xd ≤ 7) ∧ (36 ≤ xa ∧ xa ≤ 51)) ∧ xn = 32
        · obtain ⟨⟨⟨f1, f2⟩, f3, f4⟩, f5⟩ := cf
          subst f5
          have HFB : Hid ((RI.mk xd xa xb).fine = true) := hF.out.2 ⟨⟨f1, f2⟩, ⟨f3, f4⟩, rfl⟩
          obtain ⟨W1, hW1⟩ : ∃ W1, W1 = w1.alloc (.cells #[.int .i64 xd, .int .i64 xa, .slice au 32 cu] 75) := ⟨_, rfl⟩
          have HB1 : Hid (∀ W, Below W1.heap.size W1 W → W.cell? ⟨w1.heap.size, 0, none⟩ = some (.int .i64 xd) ∧ W.cell? ⟨w1.heap.size, 1, none⟩ = some (.int .i64 xa)) := by
            intro W hW
            rw [hW1] at hW
            exact ⟨box_up hW 0 rfl, box_up hW 1 rfl⟩
          have B1 : Below w.heap.size w W1 := by rw [hW1]; exact belT B (belA1 (belR _))
          have HW1 := Lib.hid hW1
          clear hW1
          go_wp2
          clear e0 e1 e2
          go_loopw [55] (fun i w' => ∃ j : Nat, j ≤ k ∧ i = .int .i64 j ∧ Hid (RI.hit (l.take j) ⟨xd, xa, xb⟩ = false) ∧ Below W1.heap.size W1 w') (fun i _ => k - (intOf i).toNat)
          case atStart => exact ⟨0, Nat.zero_le _, rfl, Lib.hid rfl, by rw [← HW1.out]; exact belR _⟩
          case round =>
            obtain ⟨j, hj, rfl, hno, BJ⟩ := hrel
            obtain ⟨g0, g1⟩ := HB1.out _ BJ
            by_cases hjk : j < k
            · obtain ⟨b', off', y, u', he, hbl', hy', hit'⟩ := Items.get h'.out (show j < n by omega)
              cases he
              obtain ⟨y0, y1, y2, yb, yi⟩ := hit'.up (belT B1 BJ) hbl'
              obtain ⟨av, cv, rfl, _, _⟩ := yb.shape
              obtain ⟨yd, ya, yl⟩ := y
              dsimp only at *
              have HH : Hid (RI.hit (l.take (j + 1)) ⟨xd, xa, xb⟩ = ((yd == xd) && (ya == xa))) := by
                show _ = _
                rw [hit_step hy'.out, hno.out]; rfl
              have k0 := fun o => Lib.cell?_alloc_marked o g0
              have k1 := fun o => Lib.cell?_alloc_marked o g1
              obtain ⟨⟨yi1, yi2⟩, yi3, yi4⟩ := yi
              obtain ⟨b1, hb1⟩ : ∃ b1, (xd == yd) = b1 := ⟨_, rfl⟩
              obtain ⟨b2, hb2⟩ : ∃ b2, (xa == ya) = b2 := ⟨_, rfl⟩
              have HH2 : Hid (RI.hit (l.take (j + 1)) ⟨xd, xa, xb⟩ = (b1 && b2)) := by
                show _ = _
                rw [HH.out, ← hb1, ← hb2, Bool.beq_comm (a := yd), Bool.beq_comm (a := ya)]
              clear HH hno
              have HIT : Hid (∀ (a : RI), a ∈ l.take (j + 1) → a ∈ l.take k) := fun a ha => by
                have : l.take (j + 1) = (l.take k).take (j + 1) := by rw [List.take_take, Nat.min_eq_left (by omega)]
                rw [this] at ha
                exact List.mem_of_mem_take ha
              cases b1
              · go_wp2
                go_roundw
                case rel => exact ⟨j + 1, by omega, by go_num, HH2, belT BJ (belA1 (belR _))⟩
                case measure => simp [intOf]; omega
              · cases b2
                · go_wp2
                  go_roundw
                  case rel => exact ⟨j + 1, by omega, by go_num, HH2, belT BJ (belA1 (belR _))⟩
                  case measure => simp [intOf]; omega
                · go_wp2
                  go_ret
                  refine ⟨ret_bool ?_, belT B1 (belT BJ (belA1 (belR _)))⟩
                  have : RI.hit (l.take k) ⟨xd, xa, xb⟩ = true := by
                    obtain ⟨a, ha, hat⟩ := List.any_eq_true.1 HH2.out
                    exact List.any_eq_true.2 ⟨a, HIT.out a ha, hat⟩
                  rw [HE.out, hall.out, RI.good_step hx.out, HFB.out, this]; rfl
            · obtain rfl : j = k := by omega
              go_wp2
              go_roundw
              case rel =>
                refine ⟨j + 1, by omega, by go_num, Lib.hid ?_, belT B1 BJ⟩
                rw [hall.out, RI.good_step hx.out, HFB.out, hno.out]; rfl
              case measure => simp [intOf]; omega
        · have HNO : Hid (rok s l = false) := by
            show _ = _
            have : (RI.mk xd xa xb).fine = false := by
              rw [Bool.eq_false_iff]; intro h
              have := hF.out.1 h
              exact cf ⟨⟨this.1, this.2.1⟩, this.2.2⟩
            rw [HE.out, hall.out, RI.good_step hx.out, this]; rfl
          by_cases f1 : 0 ≤ xd
          · by_cases f2 : xd ≤ 7
            · by_cases f3 : 36 ≤ xa
              · by_cases f4 : xa ≤ 51
                · have f5 : ¬ xn = 32 := fun h => cf ⟨⟨⟨f1, f2⟩, f3, f4⟩, h⟩
                  have f6 : ((xn : Int) != 32) = true := by rw [bne_iff_ne]; omega
                  clear cf f5
                  go_wp2
                  go_ret
                  exact ⟨ret_bool HNO.out.symm, belT B (belA1 (belR _))⟩
                · clear cf
                  go_wp2
                  go_ret
                  exact ⟨ret_bool HNO.out.symm, belT B (belA1 (belR _))⟩
              · clear cf
                go_wp2
                go_ret
                exact ⟨ret_bool HNO.out.symm, belT B (belA1 (belR _))⟩
            · clear cf
              go_wp2
              go_ret
              exact ⟨ret_bool HNO.out.symm, belT B (belA1 (belR _))⟩
          · clear cf
            go_wp2
            go_ret
            exact ⟨ret_bool HNO.out.symm, belT B (belA1 (belR _))⟩
      · go_wp2
        go_ret
        refine ⟨ret_bool ?_, B⟩
        rw [HE.out, hall.out, show k = l.length by rw [← HN.out]; omega, RI.good_end]
  · have hno : rok s l = false := by
      rw [Bool.eq_false_iff]; intro h
      obtain ⟨k1, k2, _⟩ := (rok_iff s l).1 h
      exact c ⟨k1, by rw [HN.out]; exact k2⟩
    rw [hno]
    clear hno
    go_enter Try.func37, Try.ntmps37
    by_cases c1 : 1 ≤ s
    · by_cases c2 : s ≤ 2147483647
      · have c3 : ¬ n ≤ 3 := fun h => c ⟨⟨c1, c2⟩, h⟩
        clear c
        go_wp2
        go_ret
        exact ⟨rfl, belR _⟩
      · clear c
        go_wp2
        go_ret
        exact ⟨rfl, belR _⟩
    · clear c
      go_wp2
      go_ret
      exact ⟨rfl, belR _⟩
end Go.Proofs.Ytgnnkglmlopldaa
