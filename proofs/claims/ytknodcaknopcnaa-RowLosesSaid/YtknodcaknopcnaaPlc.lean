/- The walks of place.in, row.in, fine; Parity and Disk, the program's and the reference's, of a geometry that may be. -/
import Derived.Test.YtknodcaknopcnaaRw
import Derived.Test.YtknodcaknopcnaaGeomR
namespace Go.Proofs.Ytknodcaknopcnaa
open Go.RowKit
set_option linter.unusedVariables false
set_option linter.unusedSimpArgs false
set_option maxRecDepth 100000
set_option maxHeartbeats 2000000

theorem okN_geo {l d c : Nat} (h : Y.okN l d c) : (Geo.mk l d c).ok = true := by
  obtain ⟨h1, h2, h3⟩ := h
  rw [Geo.ok_iff]
  dsimp only
  omega
theorem geo_okN {l d c : Int} (h : (Geo.mk l d c).ok = true) : ∃ l' d' c' : Nat, l = l' ∧ d = d' ∧ c = c' ∧ Y.okN l' d' c' := by
  have h := (Geo.ok_iff _).1 h
  dsimp only at h
  refine ⟨l.toNat, d.toNat, c.toNat, by omega, by omega, by omega, ?_⟩
  unfold Y.okN
  omega
def inB (l d c r : Int) : Bool := (Geo.mk l d c).ok && decide (0 ≤ r ∧ r < 16)
theorem pin_any (l d c r : Int) (w : World) (hl : i64b l) (hd : i64b d) (hc : i64b c) :
    Calls Try.prog 65 #[.agg #[.int .i64 l, .int .i64 d, .int .i64 c], .int .i64 r] w fun e w' => e = .returned (.bool (inB l d c r)) ∧ Below w.heap.size w w' := by
  cases hok : (Geo.mk l d c).ok with
  | true =>
    have HE := Lib.hid (Geo.err_yes hok)
    have HB : Hid (inB l d c r = decide (0 ≤ r ∧ r < 16)) := by show _ = _; unfold inB; rw [hok]; rfl
    clear hok
    by_cases h0 : 0 ≤ r
    · by_cases h1 : r < 16
      · have H2 := Lib.hid (decide_eq_true (show 0 ≤ r ∧ r < 16 from ⟨h0, h1⟩))
        go_enter Try.func65, Try.ntmps65
        go_wp2_with (go_at_call 62; refine Calls.mono (gcheck_any l d c _ hl hd hc) ?_; rw [HE.out]; rintro e w1 ⟨rfl, b1⟩)
        go_ret
        exact ⟨ret_bool (by rw [HB.out, H2.out]), belT (belA1 (belR _)) b1⟩
      · have H2 := Lib.hid (decide_eq_false (show ¬ (0 ≤ r ∧ r < 16) from fun h => h1 h.2))
        have k1 : decide (r < 16) = false := by rw [decide_eq_false_iff_not]; omega
        have k1p : (r < 16) = False := by rw [eq_iff_iff]; exact ⟨fun h => by omega, fun h => h.elim⟩
        clear h1
        go_enter Try.func65, Try.ntmps65
        go_wp2_with (go_at_call 62; refine Calls.mono (gcheck_any l d c _ hl hd hc) ?_; rw [HE.out]; rintro e w1 ⟨rfl, b1⟩)
        go_ret
        exact ⟨ret_bool (by rw [HB.out, H2.out]), belT (belA1 (belR _)) b1⟩
    · have H2 := Lib.hid (decide_eq_false (show ¬ (0 ≤ r ∧ r < 16) from fun h => h0 h.1))
      have k1 : decide (0 ≤ r) = false := by rw [decide_eq_false_iff_not]; omega
      have k1p : (0 ≤ r) = False := by rw [eq_iff_iff]; exact ⟨fun h => by omega, fun h => h.elim⟩
      clear h0
      go_enter Try.func65, Try.ntmps65
      go_wp2_with (go_at_call 62; refine Calls.mono (gcheck_any l d c _ hl hd hc) ?_; rw [HE.out]; rintro e w1 ⟨rfl, b1⟩)
      go_ret
      exact ⟨ret_bool (by rw [HB.out, H2.out]), belT (belA1 (belR _)) b1⟩
  | false =>
    have HE := Lib.hid (Geo.err_no hok)
    have HB : Hid (inB l d c r = false) := by show _ = _; unfold inB; rw [hok]; rfl
    clear hok
    go_enter Try.func65, Try.ntmps65
    go_wp2_with (go_at_call 62; refine Calls.mono (gcheck_any l d c _ hl hd hc) ?_; rw [HE.out]; rintro e w1 ⟨rfl, b1⟩)
    go_ret
    exact ⟨ret_bool (by rw [HB.out]), belT (belA1 (belR _)) b1⟩
theorem rin_any (l d c r : Int) (w : World) (hl : i64b l) (hd : i64b d) (hc : i64b c) :
    Calls Try.prog 45 #[.agg #[.int .i64 l, .int .i64 d, .int .i64 c], .int .i64 r] w fun e w' => e = .returned (.bool (inB l d c r)) ∧ Below w.heap.size w w' := by
  cases hok : (Geo.mk l d c).ok with
  | true =>
    have HE := Lib.hid (Geo.err_yes hok)
    have HB : Hid (inB l d c r = decide (0 ≤ r ∧ r < 16)) := by show _ = _; unfold inB; rw [hok]; rfl
    clear hok
    by_cases h0 : 0 ≤ r
    · by_cases h1 : r < 16
      · have H2 := Lib.hid (decide_eq_true (show 0 ≤ r ∧ r < 16 from ⟨h0, h1⟩))
        go_enter Try.func45, Try.ntmps45
        go_wp2_with (go_at_call 62; refine Calls.mono (gcheck_any l d c _ hl hd hc) ?_; rw [HE.out]; rintro e w1 ⟨rfl, b1⟩)
        go_ret
        exact ⟨ret_bool (by rw [HB.out, H2.out]), belT (belA1 (belR _)) b1⟩
      · have H2 := Lib.hid (decide_eq_false (show ¬ (0 ≤ r ∧ r < 16) from fun h => h1 h.2))
        have k1 : decide (r < 16) = false := by rw [decide_eq_false_iff_not]; omega
        have k1p : (r < 16) = False := by rw [eq_iff_iff]; exact ⟨fun h => by omega, fun h => h.elim⟩
        clear h1
        go_enter Try.func45, Try.ntmps45
        go_wp2_with (go_at_call 62; refine Calls.mono (gcheck_any l d c _ hl hd hc) ?_; rw [HE.out]; rintro e w1 ⟨rfl, b1⟩)
        go_ret
        exact ⟨ret_bool (by rw [HB.out, H2.out]), belT (belA1 (belR _)) b1⟩
    · have H2 := Lib.hid (decide_eq_false (show ¬ (0 ≤ r ∧ r < 16) from fun h => h0 h.1))
      have k1 : decide (0 ≤ r) = false := by rw [decide_eq_false_iff_not]; omega
      have k1p : (0 ≤ r) = False := by rw [eq_iff_iff]; exact ⟨fun h => by omega, fun h => h.elim⟩
      clear h0
      go_enter Try.func45, Try.ntmps45
      go_wp2_with (go_at_call 62; refine Calls.mono (gcheck_any l d c _ hl hd hc) ?_; rw [HE.out]; rintro e w1 ⟨rfl, b1⟩)
      go_ret
      exact ⟨ret_bool (by rw [HB.out, H2.out]), belT (belA1 (belR _)) b1⟩
  | false =>
    have HE := Lib.hid (Geo.err_no hok)
    have HB : Hid (inB l d c r = false) := by show _ = _; unfold inB; rw [hok]; rfl
    clear hok
    go_enter Try.func45, Try.ntmps45
    go_wp2_with (go_at_call 62; refine Calls.mono (gcheck_any l d c _ hl hd hc) ?_; rw [HE.out]; rintro e w1 ⟨rfl, b1⟩)
    go_ret
    exact ⟨ret_bool (by rw [HB.out]), belT (belA1 (belR _)) b1⟩
theorem fine_any (l d c r : Int) (w : World) (hl : i64b l) (hd : i64b d) (hc : i64b c) :
    Calls Try.prog 52 #[.agg #[.int .i64 l, .int .i64 d, .int .i64 c], .int .i64 r] w fun e w' => e = .returned (.bool (inB l d c r)) ∧ Below w.heap.size w w' := by
  cases hok : (Geo.mk l d c).ok with
  | true =>
    have HE := Lib.hid hok
    have HB : Hid (inB l d c r = decide (0 ≤ r ∧ r < 16)) := by show _ = _; unfold inB; rw [hok]; rfl
    clear hok
    by_cases h0 : 0 ≤ r
    · by_cases h1 : r < 16
      · have H2 := Lib.hid (decide_eq_true (show 0 ≤ r ∧ r < 16 from ⟨h0, h1⟩))
        go_enter Try.func52, Try.ntmps52
        go_wp2_with (go_at_call 43; refine Calls.mono (refgcheck_any l d c _ hl hd hc) ?_; rw [HE.out]; rintro e w1 ⟨rfl, b1⟩)
        go_ret
        exact ⟨ret_bool (by rw [HB.out, H2.out]), belT (belA1 (belR _)) b1⟩
      · have H2 := Lib.hid (decide_eq_false (show ¬ (0 ≤ r ∧ r < 16) from fun h => h1 h.2))
        have k1 : decide (r < 16) = false := by rw [decide_eq_false_iff_not]; omega
        have k1p : (r < 16) = False := by rw [eq_iff_iff]; exact ⟨fun h => by omega, fun h => h.elim⟩
        clear h1
        go_enter Try.func52, Try.ntmps52
        go_wp2_with (go_at_call 43; refine Calls.mono (refgcheck_any l d c _ hl hd hc) ?_; rw [HE.out]; rintro e w1 ⟨rfl, b1⟩)
        go_ret
        exact ⟨ret_bool (by rw [HB.out, H2.out]), belT (belA1 (belR _)) b1⟩
    · have H2 := Lib.hid (decide_eq_false (show ¬ (0 ≤ r ∧ r < 16) from fun h => h0 h.1))
      have k1 : decide (0 ≤ r) = false := by rw [decide_eq_false_iff_not]; omega
      have k1p : (0 ≤ r) = False := by rw [eq_iff_iff]; exact ⟨fun h => by omega, fun h => h.elim⟩
      clear h0
      go_enter Try.func52, Try.ntmps52
      go_wp2_with (go_at_call 43; refine Calls.mono (refgcheck_any l d c _ hl hd hc) ?_; rw [HE.out]; rintro e w1 ⟨rfl, b1⟩)
      go_ret
      exact ⟨ret_bool (by rw [HB.out, H2.out]), belT (belA1 (belR _)) b1⟩
  | false =>
    have HE := Lib.hid hok
    have HB : Hid (inB l d c r = false) := by show _ = _; unfold inB; rw [hok]; rfl
    clear hok
    go_enter Try.func52, Try.ntmps52
    go_wp2_with (go_at_call 43; refine Calls.mono (refgcheck_any l d c _ hl hd hc) ?_; rw [HE.out]; rintro e w1 ⟨rfl, b1⟩)
    go_ret
    exact ⟨ret_bool (by rw [HB.out]), belT (belA1 (belR _)) b1⟩
theorem okN_in {l d c : Nat} (h : Y.okN l d c) : i64b (l : Int) ∧ i64b (d : Int) ∧ i64b (c : Int) := by
  obtain ⟨h1, h2, h3⟩ := h
  unfold i64b
  omega
theorem inB_yes {l d c r : Nat} (h : Y.okN l d c) (hr : r < 16) : inB l d c r = true := by
  unfold inB
  rw [okN_geo h]
  exact decide_eq_true ⟨by omega, by omega⟩
def qd (l d c r : Nat) : Int := if l = 5 then -1 else (Y.off d c r 1 : Nat)
theorem parity_any (l d c r : Nat) (w : World) (h : Y.okN l d c) (hr : r < 16) :
    Calls Try.prog 50 #[.agg #[.int .i64 l, .int .i64 d, .int .i64 c], .int .i64 r] w fun e w' => e = .returned (.tuple #[.int .i64 (Y.off d c r 0 : Nat), .int .i64 (qd l d c r)]) ∧ Below w.heap.size w w' := by
  obtain ⟨hl64, hd64, hc64⟩ := okN_in h
  have HIN := pin_any l d c r (w.alloc (.cells #[.int .i64 l, .int .i64 d, .int .i64 c] 42)) hl64 hd64 hc64
  rw [inB_yes h hr] at HIN
  have HIN := Lib.hid HIN
  have h' := h
  obtain ⟨h1, h2, h3⟩ := h'
  obtain ⟨m, hm⟩ : ∃ m, m = r / c % d := ⟨_, rfl⟩
  have hmd : m < d := by rw [hm]; exact Nat.mod_lt _ (by omega)
  obtain ⟨p, hp⟩ : ∃ p, p = d - 1 - m := ⟨_, rfl⟩
  have hp0 : Hid (Y.off d c r 0 = p) := by show _ = _; rw [Y.off_zero (by omega), hp, hm]; rfl
  have hd0 : ((d : Int) == 0) = false := by rw [beq_eq_false_iff_ne]; omega
  have hc0 : ((c : Int) == 0) = false := by rw [beq_eq_false_iff_ne]; omega
  have hd0n : ¬ d = 0 := by omega
  have hc0n : ¬ c = 0 := by omega
  have hd0i : ¬ (d : Int) = 0 := by omega
  have hc0i : ¬ (c : Int) = 0 := by omega
  have ht1 : (r : Int).tdiv (c : Int) = ((r / c : Nat) : Int) := (Int.ofNat_tdiv r c).symm
  have ht2 : ((r / c : Nat) : Int).tmod (d : Int) = (m : Int) := by rw [hm]; exact (Int.ofNat_tmod _ _).symm
  obtain ⟨q, hq⟩ : ∃ q, q = r / c := ⟨_, rfl⟩
  rw [← hq] at ht1 ht2
  have hq16 : q < 16 := by rw [hq]; exact Nat.lt_of_le_of_lt (Nat.div_le_self _ _) hr
  have hpp : (d : Int) - 1 - (m : Int) = (p : Int) := by omega
  have hd8 : d ≤ 8 := h2
  obtain ⟨q1, hq1⟩ : ∃ q1, q1 = (p + 1) % d := ⟨_, rfl⟩
  have ht3 : ((p : Int) + 1).tmod (d : Int) = (q1 : Int) := by rw [hq1]; exact (Int.ofNat_tmod (p + 1) d).symm
  have hwq : IntKind.i64.wrap (q : Int) = (q : Int) := by rw [IntKind.wrap_i64]; omega
  have hw1 : IntKind.i64.wrap ((d : Int) - 1) = (d : Int) - 1 := by rw [IntKind.wrap_i64]; omega
  have hw2 : IntKind.i64.wrap ((d : Int) - 1 - (m : Int)) = (p : Int) := by rw [IntKind.wrap_i64]; omega
  have hw3 : IntKind.i64.wrap ((p : Int) + 1) = (p : Int) + 1 := by rw [IntKind.wrap_i64]; omega
  have HQ1 : Hid (Y.off d c r 1 = q1) := by
    show _ = _
    have e := hp0.out
    rw [Y.off_zero (by omega)] at e
    rw [hq1, ← e]; rfl
  clear hm hp hq hq1 hpp hl64 hd64 hc64 h3
  by_cases hl5 : l = 5
  · have hl5' : ((l : Int) == 5) = true := by rw [beq_iff_eq]; omega
    have HL := Lib.hid hl5
    clear hl5 h h1
    go_enter Try.func50, Try.ntmps50
    go_wp2_with (go_at_call 65; refine Calls.mono HIN.out ?_; rintro e w1 ⟨rfl, b1⟩)
    have c0 := box_up b1 0 rfl
    have c1 := box_up b1 1 rfl
    have c2 := box_up b1 2 rfl
    have HK : Hid (∀ W, Below w1.heap.size w1 W → W.cell? ⟨w.heap.size, 0, none⟩ = some (.int .i64 l) ∧ W.cell? ⟨w.heap.size, 1, none⟩ = some (.int .i64 d) ∧ W.cell? ⟨w.heap.size, 2, none⟩ = some (.int .i64 c)) := by
      intro W hW
      exact ⟨by rw [hW.cell (World.block_lt_of_cell? _ _ c0)]; exact c0, by rw [hW.cell (World.block_lt_of_cell? _ _ c1)]; exact c1, by rw [hW.cell (World.block_lt_of_cell? _ _ c2)]; exact c2⟩
    go_region_held3 (fun w' => w'.cell? ⟨w.heap.size, 0, none⟩ = some (.int .i64 l) ∧ w'.cell? ⟨w.heap.size, 1, none⟩ = some (.int .i64 d) ∧ w'.cell? ⟨w.heap.size, 2, none⟩ = some (.int .i64 c))
      ((refine HK.out _ ?_; iterate 8 try (first | assumption | apply belDr | apply belAlloc | exact belR _)))
      (fail)
    go_wp2
    go_ret2
    refine ⟨?_, belT (belT (belA1 (belR _)) b1) (by iterate 8 try (first | assumption | apply belDr | apply belAlloc | exact belR _))⟩
    rw [hp0.out]
    unfold qd
    rw [if_pos HL.out]
    rfl
  · have hl5' : ((l : Int) == 5) = false := by rw [beq_eq_false_iff_ne]; omega
    have HL := Lib.hid hl5
    clear hl5 h h1
    go_enter Try.func50, Try.ntmps50
    go_wp2_with (go_at_call 65; refine Calls.mono HIN.out ?_; rintro e w1 ⟨rfl, b1⟩)
    have c0 := box_up b1 0 rfl
    have c1 := box_up b1 1 rfl
    have c2 := box_up b1 2 rfl
    have HK : Hid (∀ W, Below w1.heap.size w1 W → W.cell? ⟨w.heap.size, 0, none⟩ = some (.int .i64 l) ∧ W.cell? ⟨w.heap.size, 1, none⟩ = some (.int .i64 d) ∧ W.cell? ⟨w.heap.size, 2, none⟩ = some (.int .i64 c)) := by
      intro W hW
      exact ⟨by rw [hW.cell (World.block_lt_of_cell? _ _ c0)]; exact c0, by rw [hW.cell (World.block_lt_of_cell? _ _ c1)]; exact c1, by rw [hW.cell (World.block_lt_of_cell? _ _ c2)]; exact c2⟩
    go_region_held3 (fun w' => w'.cell? ⟨w.heap.size, 0, none⟩ = some (.int .i64 l) ∧ w'.cell? ⟨w.heap.size, 1, none⟩ = some (.int .i64 d) ∧ w'.cell? ⟨w.heap.size, 2, none⟩ = some (.int .i64 c))
      ((refine HK.out _ ?_; iterate 8 try (first | assumption | apply belDr | apply belAlloc | exact belR _)))
      (fail)
    go_wp2
    go_region_held3 (fun w' => w'.cell? ⟨w.heap.size, 0, none⟩ = some (.int .i64 l) ∧ w'.cell? ⟨w.heap.size, 1, none⟩ = some (.int .i64 d) ∧ w'.cell? ⟨w.heap.size, 2, none⟩ = some (.int .i64 c))
      ((refine HK.out _ ?_; iterate 8 try (first | assumption | apply belDr | apply belAlloc | exact belR _)))
      (fail)
    go_wp2
    go_ret2
    refine ⟨?_, belT (belT (belA1 (belR _)) b1) (by iterate 8 try (first | assumption | apply belDr | apply belAlloc | exact belR _))⟩
    rw [hp0.out]
    unfold qd
    rw [if_neg HL.out, HQ1.out]
    rfl
theorem refparity_any (l d c r : Nat) (w : World) (h : Y.okN l d c) (hr : r < 16) :
    Calls Try.prog 28 #[.agg #[.int .i64 l, .int .i64 d, .int .i64 c], .int .i64 r] w fun e w' => e = .returned (.tuple #[.int .i64 (Y.off d c r 0 : Nat), .int .i64 (qd l d c r)]) ∧ Below w.heap.size w w' := by
  obtain ⟨hl64, hd64, hc64⟩ := okN_in h
  have HIN := fine_any l d c r (w.alloc (.cells #[.int .i64 l, .int .i64 d, .int .i64 c] 42)) hl64 hd64 hc64
  rw [inB_yes h hr] at HIN
  have HIN := Lib.hid HIN
  have h' := h
  obtain ⟨h1, h2, h3⟩ := h'
  obtain ⟨m, hm⟩ : ∃ m, m = r / c % d := ⟨_, rfl⟩
  have hmd : m < d := by rw [hm]; exact Nat.mod_lt _ (by omega)
  obtain ⟨p, hp⟩ : ∃ p, p = d - 1 - m := ⟨_, rfl⟩
  have hp0 : Hid (Y.off d c r 0 = p) := by show _ = _; rw [Y.off_zero (by omega), hp, hm]; rfl
  have hd0 : ((d : Int) == 0) = false := by rw [beq_eq_false_iff_ne]; omega
  have hc0 : ((c : Int) == 0) = false := by rw [beq_eq_false_iff_ne]; omega
  have hd0n : ¬ d = 0 := by omega
  have hc0n : ¬ c = 0 := by omega
  have hd0i : ¬ (d : Int) = 0 := by omega
  have hc0i : ¬ (c : Int) = 0 := by omega
  have ht1 : (r : Int).tdiv (c : Int) = ((r / c : Nat) : Int) := (Int.ofNat_tdiv r c).symm
  have ht2 : ((r / c : Nat) : Int).tmod (d : Int) = (m : Int) := by rw [hm]; exact (Int.ofNat_tmod _ _).symm
  obtain ⟨q, hq⟩ : ∃ q, q = r / c := ⟨_, rfl⟩
  rw [← hq] at ht1 ht2
  have hq16 : q < 16 := by rw [hq]; exact Nat.lt_of_le_of_lt (Nat.div_le_self _ _) hr
  have hpp : (d : Int) - 1 - (m : Int) = (p : Int) := by omega
  have hd8 : d ≤ 8 := h2
  obtain ⟨q1, hq1⟩ : ∃ q1, q1 = (p + 1) % d := ⟨_, rfl⟩
  have ht3 : ((p : Int) + 1).tmod (d : Int) = (q1 : Int) := by rw [hq1]; exact (Int.ofNat_tmod (p + 1) d).symm
  have hwq : IntKind.i64.wrap (q : Int) = (q : Int) := by rw [IntKind.wrap_i64]; omega
  have hw1 : IntKind.i64.wrap ((d : Int) - 1) = (d : Int) - 1 := by rw [IntKind.wrap_i64]; omega
  have hw2 : IntKind.i64.wrap ((d : Int) - 1 - (m : Int)) = (p : Int) := by rw [IntKind.wrap_i64]; omega
  have hw3 : IntKind.i64.wrap ((p : Int) + 1) = (p : Int) + 1 := by rw [IntKind.wrap_i64]; omega
  have HQ1 : Hid (Y.off d c r 1 = q1) := by
    show _ = _
    have e := hp0.out
    rw [Y.off_zero (by omega)] at e
    rw [hq1, ← e]; rfl
  clear hm hp hq hq1 hpp hl64 hd64 hc64 h3
  by_cases hl5 : l = 5
  · have hl5' : ((l : Int) == 5) = true := by rw [beq_iff_eq]; omega
    have HL := Lib.hid hl5
    clear hl5 h h1
    go_enter Try.func28, Try.ntmps28
    go_wp2_with (go_at_call 52; refine Calls.mono HIN.out ?_; rintro e w1 ⟨rfl, b1⟩)
    have c0 := box_up b1 0 rfl
    have c1 := box_up b1 1 rfl
    have c2 := box_up b1 2 rfl
    have HK : Hid (∀ W, Below w1.heap.size w1 W → W.cell? ⟨w.heap.size, 0, none⟩ = some (.int .i64 l) ∧ W.cell? ⟨w.heap.size, 1, none⟩ = some (.int .i64 d) ∧ W.cell? ⟨w.heap.size, 2, none⟩ = some (.int .i64 c)) := by
      intro W hW
      exact ⟨by rw [hW.cell (World.block_lt_of_cell? _ _ c0)]; exact c0, by rw [hW.cell (World.block_lt_of_cell? _ _ c1)]; exact c1, by rw [hW.cell (World.block_lt_of_cell? _ _ c2)]; exact c2⟩
    go_region_held3 (fun w' => w'.cell? ⟨w.heap.size, 0, none⟩ = some (.int .i64 l) ∧ w'.cell? ⟨w.heap.size, 1, none⟩ = some (.int .i64 d) ∧ w'.cell? ⟨w.heap.size, 2, none⟩ = some (.int .i64 c))
      ((refine HK.out _ ?_; iterate 8 try (first | assumption | apply belDr | apply belAlloc | exact belR _)))
      (fail)
    go_wp2
    go_ret2
    refine ⟨?_, belT (belT (belA1 (belR _)) b1) (by iterate 8 try (first | assumption | apply belDr | apply belAlloc | exact belR _))⟩
    rw [hp0.out]
    unfold qd
    rw [if_pos HL.out]
    rfl
  · have hl5' : ((l : Int) == 5) = false := by rw [beq_eq_false_iff_ne]; omega
    have HL := Lib.hid hl5
    clear hl5 h h1
    go_enter Try.func28, Try.ntmps28
    go_wp2_with (go_at_call 52; refine Calls.mono HIN.out ?_; rintro e w1 ⟨rfl, b1⟩)
    have c0 := box_up b1 0 rfl
    have c1 := box_up b1 1 rfl
    have c2 := box_up b1 2 rfl
    have HK : Hid (∀ W, Below w1.heap.size w1 W → W.cell? ⟨w.heap.size, 0, none⟩ = some (.int .i64 l) ∧ W.cell? ⟨w.heap.size, 1, none⟩ = some (.int .i64 d) ∧ W.cell? ⟨w.heap.size, 2, none⟩ = some (.int .i64 c)) := by
      intro W hW
      exact ⟨by rw [hW.cell (World.block_lt_of_cell? _ _ c0)]; exact c0, by rw [hW.cell (World.block_lt_of_cell? _ _ c1)]; exact c1, by rw [hW.cell (World.block_lt_of_cell? _ _ c2)]; exact c2⟩
    go_region_held3 (fun w' => w'.cell? ⟨w.heap.size, 0, none⟩ = some (.int .i64 l) ∧ w'.cell? ⟨w.heap.size, 1, none⟩ = some (.int .i64 d) ∧ w'.cell? ⟨w.heap.size, 2, none⟩ = some (.int .i64 c))
      ((refine HK.out _ ?_; iterate 8 try (first | assumption | apply belDr | apply belAlloc | exact belR _)))
      (fail)
    go_wp2
    go_region_held3 (fun w' => w'.cell? ⟨w.heap.size, 0, none⟩ = some (.int .i64 l) ∧ w'.cell? ⟨w.heap.size, 1, none⟩ = some (.int .i64 d) ∧ w'.cell? ⟨w.heap.size, 2, none⟩ = some (.int .i64 c))
      ((refine HK.out _ ?_; iterate 8 try (first | assumption | apply belDr | apply belAlloc | exact belR _)))
      (fail)
    go_wp2
    go_ret2
    refine ⟨?_, belT (belT (belA1 (belR _)) b1) (by iterate 8 try (first | assumption | apply belDr | apply belAlloc | exact belR _))⟩
    rw [hp0.out]
    unfold qd
    rw [if_neg HL.out, HQ1.out]
    rfl
theorem disk_any (l d c r k : Nat) (w : World) (h : Y.okN l d c) (hr : r < 16) (hk : k < d - (l - 4)) :
    Calls Try.prog 49 #[.agg #[.int .i64 l, .int .i64 d, .int .i64 c], .int .i64 r, .int .i64 k] w fun e w' => e = .returned (.int .i64 (Y.off d c r (l - 4 + k) : Nat)) ∧ Below w.heap.size w w' := by
  obtain ⟨hl64, hd64, hc64⟩ := okN_in h
  have HIN := pin_any l d c r (w.alloc (.cells #[.int .i64 l, .int .i64 d, .int .i64 c] 42)) hl64 hd64 hc64
  rw [inB_yes h hr] at HIN
  have HIN := Lib.hid HIN
  have HPA := Lib.hid (parity_any l d c r · h hr)
  have hok := okN_geo h
  have HW : Hid ((Geo.mk l d c).width = ((d - (l - 4) : Nat) : Int)) := by
    show _ = _
    unfold Geo.width
    rw [if_pos hok]
    have := h.1
    dsimp only
    omega
  have HB : Hid ((Geo.mk l d c).budget = ((l - 4 : Nat) : Int)) := by
    show _ = _
    unfold Geo.budget
    rw [if_pos hok]
    have := h.1
    dsimp only
    omega
  have HWA := Lib.hid (width_any l d c · hl64 hd64 hc64)
  have HBA := Lib.hid (budget_any l d c · hl64 hd64 hc64)
  have h' := h
  obtain ⟨h1, h2, h3⟩ := h'
  obtain ⟨p, hp⟩ : ∃ p, p = Y.off d c r 0 := ⟨_, rfl⟩
  have hpd : p < d := by rw [hp]; exact Y.off_lt (by omega)
  have hd0n : ¬ d = 0 := by omega
  have hd0i : ¬ (d : Int) = 0 := by omega
  have hd0 : ((d : Int) == 0) = false := by rw [beq_eq_false_iff_ne]; omega
  obtain ⟨u, hu⟩ : ∃ u, u = l - 4 := ⟨_, rfl⟩
  obtain ⟨v, hv⟩ : ∃ v, v = d - (l - 4) := ⟨_, rfl⟩
  obtain ⟨o, ho⟩ : ∃ o, o = Y.off d c r (l - 4 + k) := ⟨_, rfl⟩
  have ht : ((p : Int) + (u : Int) + (k : Int)).tmod (d : Int) = (o : Int) := by
    have e : (p : Int) + (u : Int) + (k : Int) = ((p + u + k : Nat) : Int) := by omega
    rw [e, ho, hp, hu, Y.off_zero (by omega)]
    unfold Y.off
    rw [← Nat.add_assoc]
    exact (Int.ofNat_tmod _ _).symm
  have hu2 : u ≤ 2 := by omega
  have hd8 : d ≤ 8 := h2
  have hk0 : (0 : Int) ≤ (k : Int) := by omega
  have hkv : (k : Int) < (v : Int) := by omega
  have hw1 : IntKind.i64.wrap ((p : Int) + (u : Int)) = (p : Int) + (u : Int) := by rw [IntKind.wrap_i64]; omega
  have hw2 : IntKind.i64.wrap ((p : Int) + (u : Int) + (k : Int)) = (p : Int) + (u : Int) + (k : Int) := by rw [IntKind.wrap_i64]; omega
  have hw3 : IntKind.i64.wrap (o : Int) = (o : Int) := by have : o < d := by rw [ho]; exact Y.off_lt (by omega)
                                                          rw [IntKind.wrap_i64]; omega
  have HO := Lib.hid ho
  rw [← hv] at HW
  rw [← hu] at HB
  rw [← hp] at HPA
  clear hp hu hv ho hl64 hd64 hc64 h3 h1 h hok hk h2
  go_enter Try.func49, Try.ntmps49
  go_wp2_with fail
  refine Calls.mono HIN.out ?_
  rintro e w1 ⟨rfl, b1⟩
  have c0 := box_up b1 0 rfl
  have c1 := box_up b1 1 rfl
  have c2 := box_up b1 2 rfl
  have HK : Hid (∀ W, Below w1.heap.size w1 W → W.cell? ⟨w.heap.size, 0, none⟩ = some (.int .i64 l) ∧ W.cell? ⟨w.heap.size, 1, none⟩ = some (.int .i64 d) ∧ W.cell? ⟨w.heap.size, 2, none⟩ = some (.int .i64 c)) := by
    intro W hW
    exact ⟨by rw [hW.cell (World.block_lt_of_cell? _ _ c0)]; exact c0, by rw [hW.cell (World.block_lt_of_cell? _ _ c1)]; exact c1, by rw [hW.cell (World.block_lt_of_cell? _ _ c2)]; exact c2⟩
  go_wp2_with fail
  refine Calls.mono (HWA.out _) ?_
  rw [HW.out]
  rintro e w2 ⟨rfl, b2⟩
  obtain ⟨d0, d1, d2⟩ := HK.out _ b2
  clear c0 c1 c2
  go_wp2_with fail
  refine Calls.mono (HPA.out _) ?_
  rintro e w3 ⟨rfl, b3⟩
  have B3 := belT b2 b3
  clear d0 d1 d2
  obtain ⟨d0, d1, d2⟩ := HK.out _ B3
  go_wp2_with fail
  refine wp_region_held_drew (S := fun W => W.cell? ⟨w.heap.size, 0, none⟩ = some (.int .i64 l) ∧ W.cell? ⟨w.heap.size, 1, none⟩ = some (.int .i64 d) ∧ W.cell? ⟨w.heap.size, 2, none⟩ = some (.int .i64 c)) (by kernel_rfl) (by exact HK.out _ (by iterate 8 try (first | assumption | exact belR _ | apply belDr | apply belAlloc))) (fun hHeld => ?_)
  refine wpAnyH_take (i := 0) (oi := _) (v := ?_) rfl (by kernel_rfl) (by kernel_rfl) (by kernel_rfl) (fun _ _ _ h => h) (Or.inl ⟨by rfl, ?_⟩) (by assumption) ?_
  rotate_left
  · intro w hSw
    (try dsimp only at hSw)
    go_simp
    try with_reducible rfl
  try simp only [Act.put, List.getElem_toArray, List.getElem_cons_zero, List.getElem_cons_succ, List.setIfInBounds_toArray, List.set_cons_zero, List.set_cons_succ]
  refine wpAnyH_take (i := 1) (oi := _) (v := ?_) rfl (by kernel_rfl) (by kernel_rfl) (by kernel_rfl) (fun _ _ _ h => h) (Or.inl ⟨by rfl, ?_⟩) (by assumption) ?_
  rotate_left
  · intro w hSw
    (try dsimp only at hSw)
    go_simp
    try with_reducible rfl
  try simp only [Act.put, List.getElem_toArray, List.getElem_cons_zero, List.getElem_cons_succ, List.setIfInBounds_toArray, List.set_cons_zero, List.set_cons_succ]
  refine wpAnyH_take (i := 4) (oi := _) (v := ?_) rfl (by kernel_rfl) (by kernel_rfl) (by kernel_rfl) (fun _ _ _ h => h) (Or.inl ⟨by rfl, ?_⟩) (by assumption) ?_
  rotate_left
  · intro w hSw
    (try dsimp only at hSw)
    go_simp
    try with_reducible rfl
  try simp only [Act.put, List.getElem_toArray, List.getElem_cons_zero, List.getElem_cons_succ, List.setIfInBounds_toArray, List.set_cons_zero, List.set_cons_succ]
  refine wpAnyH_take (i := 6) (oi := _) (v := ?_) rfl (by kernel_rfl) (by kernel_rfl) (by kernel_rfl) (fun _ _ _ h => h) (Or.inl ⟨by rfl, ?_⟩) (by assumption) ?_
  rotate_left
  · intro w hSw
    (try dsimp only at hSw)
    go_simp
    try with_reducible rfl
  try simp only [Act.put, List.getElem_toArray, List.getElem_cons_zero, List.getElem_cons_succ, List.setIfInBounds_toArray, List.set_cons_zero, List.set_cons_succ]
  refine wpAnyH_take (i := 7) (oi := _) (v := ?_) rfl (by kernel_rfl) (by kernel_rfl) (by kernel_rfl) (fun _ _ _ h => h) (Or.inl ⟨by rfl, ?_⟩) (by assumption) ?_
  rotate_left
  · intro w hSw
    (try dsimp only at hSw)
    go_simp
    try with_reducible rfl
  try simp only [Act.put, List.getElem_toArray, List.getElem_cons_zero, List.getElem_cons_succ, List.setIfInBounds_toArray, List.set_cons_zero, List.set_cons_succ]
  refine wpAnyH_ready (rs := [2]) (by kernel_rfl) (by simp) ?_
  refine AllReadyH.cons (o := _) rfl (fun K hK => ?_) AllReadyH.nil
  go_simp
  refine Calls.mono (HBA.out _) ?_
  rw [HB.out]
  rintro e w4 ⟨rfl, b4⟩
  have B4 : Below w1.heap.size w1 w4 := belT (by iterate 8 try (first | assumption | exact belR _ | apply belDr | apply belAlloc)) b4
  try go_simp
  refine hK.out _ _ (by exact HK.out _ (by iterate 8 try (first | assumption | exact belR _ | apply belDr | apply belAlloc))) (fun hHeld => ?_)
  clear hK K
  try simp only [Act.put, List.getElem_toArray, List.getElem_cons_zero, List.getElem_cons_succ, List.setIfInBounds_toArray, List.set_cons_zero, List.set_cons_succ]
  refine wpAnyH_take (i := 3) (oi := _) (v := ?_) rfl (by kernel_rfl) (by kernel_rfl) (by kernel_rfl) (fun _ _ _ h => h) (Or.inl ⟨by rfl, ?_⟩) (by assumption) ?_
  rotate_left
  · intro w hSw
    (try dsimp only at hSw)
    go_simp
    try with_reducible rfl
  try simp only [Act.put, List.getElem_toArray, List.getElem_cons_zero, List.getElem_cons_succ, List.setIfInBounds_toArray, List.set_cons_zero, List.set_cons_succ]
  refine wpAnyH_take (i := 5) (oi := _) (v := ?_) rfl (by kernel_rfl) (by kernel_rfl) (by kernel_rfl) (fun _ _ _ h => h) (Or.inl ⟨by rfl, ?_⟩) (by assumption) ?_
  rotate_left
  · intro w hSw
    (try dsimp only at hSw)
    go_simp
    try with_reducible rfl
  try simp only [Act.put, List.getElem_toArray, List.getElem_cons_zero, List.getElem_cons_succ, List.setIfInBounds_toArray, List.set_cons_zero, List.set_cons_succ]
  refine wpAnyH_take (i := 8) (oi := _) (v := ?_) rfl (by kernel_rfl) (by kernel_rfl) (by kernel_rfl) (fun _ _ _ h => h) (Or.inl ⟨by rfl, ?_⟩) (by assumption) ?_
  rotate_left
  · intro w hSw
    (try dsimp only at hSw)
    go_simp
    try with_reducible rfl
  try simp only [Act.put, List.getElem_toArray, List.getElem_cons_zero, List.getElem_cons_succ, List.setIfInBounds_toArray, List.set_cons_zero, List.set_cons_succ]
  refine wpAnyH_take (i := 9) (oi := _) (v := ?_) rfl (by kernel_rfl) (by kernel_rfl) (by kernel_rfl) (fun _ _ _ h => h) (Or.inl ⟨by rfl, ?_⟩) (by assumption) ?_
  rotate_left
  · intro w hSw
    (try dsimp only at hSw)
    go_simp
    try with_reducible rfl
  try simp only [Act.put, List.getElem_toArray, List.getElem_cons_zero, List.getElem_cons_succ, List.setIfInBounds_toArray, List.set_cons_zero, List.set_cons_succ]
  refine wpAnyH_done (by kernel_rfl) ?_ _
  go_wp2
  go_ret
  exact ⟨by rw [← HO.out]; rfl, belT (belT (belA1 (belR _)) b1) (by iterate 8 try (first | assumption | exact belR _ | apply belDr | apply belAlloc))⟩
theorem refdisk_any (l d c r k : Nat) (w : World) (h : Y.okN l d c) (hr : r < 16) (hk : k < d - (l - 4)) :
    Calls Try.prog 29 #[.agg #[.int .i64 l, .int .i64 d, .int .i64 c], .int .i64 r, .int .i64 k] w fun e w' => e = .returned (.int .i64 (Y.off d c r (l - 4 + k) : Nat)) ∧ Below w.heap.size w w' := by
  obtain ⟨hl64, hd64, hc64⟩ := okN_in h
  have HIN := fine_any l d c r (w.alloc (.cells #[.int .i64 l, .int .i64 d, .int .i64 c] 42)) hl64 hd64 hc64
  rw [inB_yes h hr] at HIN
  have HIN := Lib.hid HIN
  have HPA := Lib.hid (refparity_any l d c r · h hr)
  have hok := okN_geo h
  have HW : Hid ((Geo.mk l d c).width = ((d - (l - 4) : Nat) : Int)) := by
    show _ = _
    unfold Geo.width
    rw [if_pos hok]
    have := h.1
    dsimp only
    omega
  have HB : Hid ((Geo.mk l d c).budget = ((l - 4 : Nat) : Int)) := by
    show _ = _
    unfold Geo.budget
    rw [if_pos hok]
    have := h.1
    dsimp only
    omega
  have HWA := Lib.hid (refwidth_any l d c · hl64 hd64 hc64)
  have HBA := Lib.hid (refbudget_any l d c · hl64 hd64 hc64)
  have h' := h
  obtain ⟨h1, h2, h3⟩ := h'
  obtain ⟨p, hp⟩ : ∃ p, p = Y.off d c r 0 := ⟨_, rfl⟩
  have hpd : p < d := by rw [hp]; exact Y.off_lt (by omega)
  have hd0n : ¬ d = 0 := by omega
  have hd0i : ¬ (d : Int) = 0 := by omega
  have hd0 : ((d : Int) == 0) = false := by rw [beq_eq_false_iff_ne]; omega
  obtain ⟨u, hu⟩ : ∃ u, u = l - 4 := ⟨_, rfl⟩
  obtain ⟨v, hv⟩ : ∃ v, v = d - (l - 4) := ⟨_, rfl⟩
  obtain ⟨o, ho⟩ : ∃ o, o = Y.off d c r (l - 4 + k) := ⟨_, rfl⟩
  have ht : ((p : Int) + (u : Int) + (k : Int)).tmod (d : Int) = (o : Int) := by
    have e : (p : Int) + (u : Int) + (k : Int) = ((p + u + k : Nat) : Int) := by omega
    rw [e, ho, hp, hu, Y.off_zero (by omega)]
    unfold Y.off
    rw [← Nat.add_assoc]
    exact (Int.ofNat_tmod _ _).symm
  have hu2 : u ≤ 2 := by omega
  have hd8 : d ≤ 8 := h2
  have hk0 : (0 : Int) ≤ (k : Int) := by omega
  have hkv : (k : Int) < (v : Int) := by omega
  have hw1 : IntKind.i64.wrap ((p : Int) + (u : Int)) = (p : Int) + (u : Int) := by rw [IntKind.wrap_i64]; omega
  have hw2 : IntKind.i64.wrap ((p : Int) + (u : Int) + (k : Int)) = (p : Int) + (u : Int) + (k : Int) := by rw [IntKind.wrap_i64]; omega
  have hw3 : IntKind.i64.wrap (o : Int) = (o : Int) := by have : o < d := by rw [ho]; exact Y.off_lt (by omega)
                                                          rw [IntKind.wrap_i64]; omega
  have HO := Lib.hid ho
  rw [← hv] at HW
  rw [← hu] at HB
  rw [← hp] at HPA
  clear hp hu hv ho hl64 hd64 hc64 h3 h1 h hok hk h2
  go_enter Try.func29, Try.ntmps29
  go_wp2_with fail
  refine Calls.mono HIN.out ?_
  rintro e w1 ⟨rfl, b1⟩
  have c0 := box_up b1 0 rfl
  have c1 := box_up b1 1 rfl
  have c2 := box_up b1 2 rfl
  have HK : Hid (∀ W, Below w1.heap.size w1 W → W.cell? ⟨w.heap.size, 0, none⟩ = some (.int .i64 l) ∧ W.cell? ⟨w.heap.size, 1, none⟩ = some (.int .i64 d) ∧ W.cell? ⟨w.heap.size, 2, none⟩ = some (.int .i64 c)) := by
    intro W hW
    exact ⟨by rw [hW.cell (World.block_lt_of_cell? _ _ c0)]; exact c0, by rw [hW.cell (World.block_lt_of_cell? _ _ c1)]; exact c1, by rw [hW.cell (World.block_lt_of_cell? _ _ c2)]; exact c2⟩
  go_wp2_with fail
  refine Calls.mono (HWA.out _) ?_
  rw [HW.out]
  rintro e w2 ⟨rfl, b2⟩
  obtain ⟨d0, d1, d2⟩ := HK.out _ b2
  clear c0 c1 c2
  go_wp2_with fail
  refine Calls.mono (HPA.out _) ?_
  rintro e w3 ⟨rfl, b3⟩
  have B3 := belT b2 b3
  clear d0 d1 d2
  obtain ⟨d0, d1, d2⟩ := HK.out _ B3
  go_wp2_with fail
  refine wp_region_held_drew (S := fun W => W.cell? ⟨w.heap.size, 0, none⟩ = some (.int .i64 l) ∧ W.cell? ⟨w.heap.size, 1, none⟩ = some (.int .i64 d) ∧ W.cell? ⟨w.heap.size, 2, none⟩ = some (.int .i64 c)) (by kernel_rfl) (by exact HK.out _ (by iterate 8 try (first | assumption | exact belR _ | apply belDr | apply belAlloc))) (fun hHeld => ?_)
  refine wpAnyH_take (i := 0) (oi := _) (v := ?_) rfl (by kernel_rfl) (by kernel_rfl) (by kernel_rfl) (fun _ _ _ h => h) (Or.inl ⟨by rfl, ?_⟩) (by assumption) ?_
  rotate_left
  · intro w hSw
    (try dsimp only at hSw)
    go_simp
    try with_reducible rfl
  try simp only [Act.put, List.getElem_toArray, List.getElem_cons_zero, List.getElem_cons_succ, List.setIfInBounds_toArray, List.set_cons_zero, List.set_cons_succ]
  refine wpAnyH_take (i := 1) (oi := _) (v := ?_) rfl (by kernel_rfl) (by kernel_rfl) (by kernel_rfl) (fun _ _ _ h => h) (Or.inl ⟨by rfl, ?_⟩) (by assumption) ?_
  rotate_left
  · intro w hSw
    (try dsimp only at hSw)
    go_simp
    try with_reducible rfl
  try simp only [Act.put, List.getElem_toArray, List.getElem_cons_zero, List.getElem_cons_succ, List.setIfInBounds_toArray, List.set_cons_zero, List.set_cons_succ]
  refine wpAnyH_take (i := 4) (oi := _) (v := ?_) rfl (by kernel_rfl) (by kernel_rfl) (by kernel_rfl) (fun _ _ _ h => h) (Or.inl ⟨by rfl, ?_⟩) (by assumption) ?_
  rotate_left
  · intro w hSw
    (try dsimp only at hSw)
    go_simp
    try with_reducible rfl
  try simp only [Act.put, List.getElem_toArray, List.getElem_cons_zero, List.getElem_cons_succ, List.setIfInBounds_toArray, List.set_cons_zero, List.set_cons_succ]
  refine wpAnyH_take (i := 6) (oi := _) (v := ?_) rfl (by kernel_rfl) (by kernel_rfl) (by kernel_rfl) (fun _ _ _ h => h) (Or.inl ⟨by rfl, ?_⟩) (by assumption) ?_
  rotate_left
  · intro w hSw
    (try dsimp only at hSw)
    go_simp
    try with_reducible rfl
  try simp only [Act.put, List.getElem_toArray, List.getElem_cons_zero, List.getElem_cons_succ, List.setIfInBounds_toArray, List.set_cons_zero, List.set_cons_succ]
  refine wpAnyH_take (i := 7) (oi := _) (v := ?_) rfl (by kernel_rfl) (by kernel_rfl) (by kernel_rfl) (fun _ _ _ h => h) (Or.inl ⟨by rfl, ?_⟩) (by assumption) ?_
  rotate_left
  · intro w hSw
    (try dsimp only at hSw)
    go_simp
    try with_reducible rfl
  try simp only [Act.put, List.getElem_toArray, List.getElem_cons_zero, List.getElem_cons_succ, List.setIfInBounds_toArray, List.set_cons_zero, List.set_cons_succ]
  refine wpAnyH_ready (rs := [2]) (by kernel_rfl) (by simp) ?_
  refine AllReadyH.cons (o := _) rfl (fun K hK => ?_) AllReadyH.nil
  go_simp
  refine Calls.mono (HBA.out _) ?_
  rw [HB.out]
  rintro e w4 ⟨rfl, b4⟩
  have B4 : Below w1.heap.size w1 w4 := belT (by iterate 8 try (first | assumption | exact belR _ | apply belDr | apply belAlloc)) b4
  try go_simp
  refine hK.out _ _ (by exact HK.out _ (by iterate 8 try (first | assumption | exact belR _ | apply belDr | apply belAlloc))) (fun hHeld => ?_)
  clear hK K
  try simp only [Act.put, List.getElem_toArray, List.getElem_cons_zero, List.getElem_cons_succ, List.setIfInBounds_toArray, List.set_cons_zero, List.set_cons_succ]
  refine wpAnyH_take (i := 3) (oi := _) (v := ?_) rfl (by kernel_rfl) (by kernel_rfl) (by kernel_rfl) (fun _ _ _ h => h) (Or.inl ⟨by rfl, ?_⟩) (by assumption) ?_
  rotate_left
  · intro w hSw
    (try dsimp only at hSw)
    go_simp
    try with_reducible rfl
  try simp only [Act.put, List.getElem_toArray, List.getElem_cons_zero, List.getElem_cons_succ, List.setIfInBounds_toArray, List.set_cons_zero, List.set_cons_succ]
  refine wpAnyH_take (i := 5) (oi := _) (v := ?_) rfl (by kernel_rfl) (by kernel_rfl) (by kernel_rfl) (fun _ _ _ h => h) (Or.inl ⟨by rfl, ?_⟩) (by assumption) ?_
  rotate_left
  · intro w hSw
    (try dsimp only at hSw)
    go_simp
    try with_reducible rfl
  try simp only [Act.put, List.getElem_toArray, List.getElem_cons_zero, List.getElem_cons_succ, List.setIfInBounds_toArray, List.set_cons_zero, List.set_cons_succ]
  refine wpAnyH_take (i := 8) (oi := _) (v := ?_) rfl (by kernel_rfl) (by kernel_rfl) (by kernel_rfl) (fun _ _ _ h => h) (Or.inl ⟨by rfl, ?_⟩) (by assumption) ?_
  rotate_left
  · intro w hSw
    (try dsimp only at hSw)
    go_simp
    try with_reducible rfl
  try simp only [Act.put, List.getElem_toArray, List.getElem_cons_zero, List.getElem_cons_succ, List.setIfInBounds_toArray, List.set_cons_zero, List.set_cons_succ]
  refine wpAnyH_take (i := 9) (oi := _) (v := ?_) rfl (by kernel_rfl) (by kernel_rfl) (by kernel_rfl) (fun _ _ _ h => h) (Or.inl ⟨by rfl, ?_⟩) (by assumption) ?_
  rotate_left
  · intro w hSw
    (try dsimp only at hSw)
    go_simp
    try with_reducible rfl
  try simp only [Act.put, List.getElem_toArray, List.getElem_cons_zero, List.getElem_cons_succ, List.setIfInBounds_toArray, List.set_cons_zero, List.set_cons_succ]
  refine wpAnyH_done (by kernel_rfl) ?_ _
  go_wp2
  go_ret
  exact ⟨by rw [← HO.out]; rfl, belT (belT (belA1 (belR _)) b1) (by iterate 8 try (first | assumption | exact belR _ | apply belDr | apply belAlloc))⟩
end Go.Proofs.Ytknodcaknopcnaa
/- PLCEND -/
