/- wattleplay.Geom and Good: each number has one geometry, whatever the world; wattlelaw10.one. -/
import Derived.Test.YtenjpldinnbcbaaSlG0
namespace Go.Proofs.Ytenjpldinnbcbaa
open Go.RowKit
set_option linter.unusedVariables false
set_option linter.unusedSimpArgs false
set_option maxRecDepth 100000
set_option maxHeartbeats 4000000

theorem pgeom_0_0 (n : Int) (hn : i64b n) (h2 : withinI n 2 = 0) (h40 : withinI (n.tdiv 24) 40 < 36) : ∃ G : Geo, G.In ∧ FixGeo n G := by
  have HQ := Lib.hid (tdiv_in hn)
  obtain ⟨k2, e2, _, W2⟩ := within_nat n 2 (by decide) (by decide) hn
  obtain ⟨k3, _, l3, W3⟩ := within_nat (n.tdiv 2) 3 (by decide) (by decide) (HQ.out _ (by decide))
  obtain ⟨k4, _, l4, W4⟩ := within_nat (n.tdiv 6) 4 (by decide) (by decide) (HQ.out _ (by decide))
  obtain ⟨k40, e40, l40, W40⟩ := within_nat (n.tdiv 24) 40 (by decide) (by decide) (HQ.out _ (by decide))
  obtain ⟨k9, _, l9, W9⟩ := within_nat n 9 (by decide) (by decide) hn
  obtain ⟨k12, _, l12, W12⟩ := within_nat n 12 (by decide) (by decide) hn
  have hk3' : (0 : Int) ≤ (k3 : Int) := by omega
  obtain ⟨c3, hc3, hc4, HC3⟩ := lit124 k3 l3
  have hk2 : k2 = 0 := by omega
  subst hk2
  have q36 : ((k40 : Int) == 36) = false := by simp; omega
  have q37 : ((k40 : Int) == 37) = false := by simp; omega
  have q38 : ((k40 : Int) == 38) = false := by simp; omega
  have q39 : ((k40 : Int) == 39) = false := by simp; omega
  have HN := Lib.hid hn
  obtain ⟨n1, n2⟩ := hn
  refine ⟨⟨5, 3 + (k4 : Int), (c3 : Int)⟩, ⟨⟨?_, ?_⟩, ⟨?_, ?_⟩, ⟨?_, ?_⟩⟩, fun w => ?_⟩
  iterate 6 (first | omega | (dsimp only; omega))
  have z1 := wz1 k4 l4
  have z2 := wz2 k4 l4
  have z3 := wz3 k9 (by omega)
  have z4 := wz3 k12 (by omega)
  clear h2 h40 e2 e40 l4 l40 l9 l12
  go_enter Try.func105, Try.ntmps105
  go_wp2_with fail
  refine Calls.mono (W2.out _) ?_
  rintro e wa ⟨rfl, rfl⟩
  go_wp2_with fail
  refine Calls.mono (W3.out _) ?_
  rintro e wa ⟨rfl, rfl⟩
  go_wp2_with fail
  refine Calls.mono (W4.out _) ?_
  rintro e wa ⟨rfl, rfl⟩
  clear hc3 hk3'
  go_wp2_with fail
  refine Calls.mono (W40.out _) ?_
  rintro e wa ⟨rfl, rfl⟩
  go_wp2
  refine bodyPost_ret (v := .agg #[.int .i64 (5), .int .i64 (3 + (k4 : Int)), .int .i64 ((c3 : Int))]) (by simp [results, Try.results105, go_sem, z1, z2, z3, z4]) rfl ⟨rfl, ?_⟩
  exact belA3 (belR _)
theorem pgeom_0_36 (n : Int) (hn : i64b n) (h2 : withinI n 2 = 0) (h40 : withinI (n.tdiv 24) 40 = 36) : ∃ G : Geo, G.In ∧ FixGeo n G := by
  have HQ := Lib.hid (tdiv_in hn)
  obtain ⟨k2, e2, _, W2⟩ := within_nat n 2 (by decide) (by decide) hn
  obtain ⟨k3, _, l3, W3⟩ := within_nat (n.tdiv 2) 3 (by decide) (by decide) (HQ.out _ (by decide))
  obtain ⟨k4, _, l4, W4⟩ := within_nat (n.tdiv 6) 4 (by decide) (by decide) (HQ.out _ (by decide))
  obtain ⟨k40, e40, l40, W40⟩ := within_nat (n.tdiv 24) 40 (by decide) (by decide) (HQ.out _ (by decide))
  obtain ⟨k9, _, l9, W9⟩ := within_nat n 9 (by decide) (by decide) hn
  obtain ⟨k12, _, l12, W12⟩ := within_nat n 12 (by decide) (by decide) hn
  have hk3' : (0 : Int) ≤ (k3 : Int) := by omega
  obtain ⟨c3, hc3, hc4, HC3⟩ := lit124 k3 l3
  have hk2 : k2 = 0 := by omega
  subst hk2
  have hk40 : k40 = 36 := by omega
  subst hk40
  have HN := Lib.hid hn
  obtain ⟨n1, n2⟩ := hn
  refine ⟨⟨(k9 : Int), 3 + (k4 : Int), (c3 : Int)⟩, ⟨⟨?_, ?_⟩, ⟨?_, ?_⟩, ⟨?_, ?_⟩⟩, fun w => ?_⟩
  iterate 6 (first | omega | (dsimp only; omega))
  have z1 := wz1 k4 l4
  have z2 := wz2 k4 l4
  have z3 := wz3 k9 (by omega)
  have z4 := wz3 k12 (by omega)
  clear h2 h40 e2 e40 l4 l40 l9 l12
  go_enter Try.func105, Try.ntmps105
  go_wp2_with fail
  refine Calls.mono (W2.out _) ?_
  rintro e wa ⟨rfl, rfl⟩
  go_wp2_with fail
  refine Calls.mono (W3.out _) ?_
  rintro e wa ⟨rfl, rfl⟩
  go_wp2_with fail
  refine Calls.mono (W4.out _) ?_
  rintro e wa ⟨rfl, rfl⟩
  clear hc3 hk3'
  go_wp2_with fail
  refine Calls.mono (W40.out _) ?_
  rintro e wa ⟨rfl, rfl⟩
  go_wp2_with fail
  refine Calls.mono (W9.out _) ?_
  rintro e wa ⟨rfl, rfl⟩
  go_wp2
  refine bodyPost_ret (v := .agg #[.int .i64 ((k9 : Int)), .int .i64 (3 + (k4 : Int)), .int .i64 ((c3 : Int))]) (by simp [results, Try.results105, go_sem, z1, z2, z3, z4]) rfl ⟨rfl, ?_⟩
  exact belA3 (belR _)
theorem pgeom_0_37 (n : Int) (hn : i64b n) (h2 : withinI n 2 = 0) (h40 : withinI (n.tdiv 24) 40 = 37) : ∃ G : Geo, G.In ∧ FixGeo n G := by
  have HQ := Lib.hid (tdiv_in hn)
  obtain ⟨k2, e2, _, W2⟩ := within_nat n 2 (by decide) (by decide) hn
  obtain ⟨k3, _, l3, W3⟩ := within_nat (n.tdiv 2) 3 (by decide) (by decide) (HQ.out _ (by decide))
  obtain ⟨k4, _, l4, W4⟩ := within_nat (n.tdiv 6) 4 (by decide) (by decide) (HQ.out _ (by decide))
  obtain ⟨k40, e40, l40, W40⟩ := within_nat (n.tdiv 24) 40 (by decide) (by decide) (HQ.out _ (by decide))
  obtain ⟨k9, _, l9, W9⟩ := within_nat n 9 (by decide) (by decide) hn
  obtain ⟨k12, _, l12, W12⟩ := within_nat n 12 (by decide) (by decide) hn
  have hk3' : (0 : Int) ≤ (k3 : Int) := by omega
  obtain ⟨c3, hc3, hc4, HC3⟩ := lit124 k3 l3
  have hk2 : k2 = 0 := by omega
  subst hk2
  have hk40 : k40 = 37 := by omega
  subst hk40
  have HN := Lib.hid hn
  obtain ⟨n1, n2⟩ := hn
  refine ⟨⟨5, (k12 : Int) - 1, (c3 : Int)⟩, ⟨⟨?_, ?_⟩, ⟨?_, ?_⟩, ⟨?_, ?_⟩⟩, fun w => ?_⟩
  iterate 6 (first | omega | (dsimp only; omega))
  have z1 := wz1 k4 l4
  have z2 := wz2 k4 l4
  have z3 := wz3 k9 (by omega)
  have z4 := wz3 k12 (by omega)
  clear h2 h40 e2 e40 l4 l40 l9 l12
  go_enter Try.func105, Try.ntmps105
  go_wp2_with fail
  refine Calls.mono (W2.out _) ?_
  rintro e wa ⟨rfl, rfl⟩
  go_wp2_with fail
  refine Calls.mono (W3.out _) ?_
  rintro e wa ⟨rfl, rfl⟩
  go_wp2_with fail
  refine Calls.mono (W4.out _) ?_
  rintro e wa ⟨rfl, rfl⟩
  clear hc3 hk3'
  go_wp2_with fail
  refine Calls.mono (W40.out _) ?_
  rintro e wa ⟨rfl, rfl⟩
  go_wp2_with fail
  refine Calls.mono (W12.out _) ?_
  rintro e wa ⟨rfl, rfl⟩
  go_wp2
  refine bodyPost_ret (v := .agg #[.int .i64 (5), .int .i64 ((k12 : Int) - 1), .int .i64 ((c3 : Int))]) (by simp [results, Try.results105, go_sem, z1, z2, z3, z4]) rfl ⟨rfl, ?_⟩
  exact belA3 (belR _)
theorem pgeom_0_38 (n : Int) (hn : i64b n) (h2 : withinI n 2 = 0) (h40 : withinI (n.tdiv 24) 40 = 38) : ∃ G : Geo, G.In ∧ FixGeo n G := by
  have HQ := Lib.hid (tdiv_in hn)
  obtain ⟨k2, e2, _, W2⟩ := within_nat n 2 (by decide) (by decide) hn
  obtain ⟨k3, _, l3, W3⟩ := within_nat (n.tdiv 2) 3 (by decide) (by decide) (HQ.out _ (by decide))
  obtain ⟨k4, _, l4, W4⟩ := within_nat (n.tdiv 6) 4 (by decide) (by decide) (HQ.out _ (by decide))
  obtain ⟨k40, e40, l40, W40⟩ := within_nat (n.tdiv 24) 40 (by decide) (by decide) (HQ.out _ (by decide))
  obtain ⟨k9, _, l9, W9⟩ := within_nat n 9 (by decide) (by decide) hn
  obtain ⟨k12, _, l12, W12⟩ := within_nat n 12 (by decide) (by decide) hn
  have hk3' : (0 : Int) ≤ (k3 : Int) := by omega
  obtain ⟨c3, hc3, hc4, HC3⟩ := lit124 k3 l3
  have hk2 : k2 = 0 := by omega
  subst hk2
  have hk40 : k40 = 38 := by omega
  subst hk40
  have HN := Lib.hid hn
  obtain ⟨n1, n2⟩ := hn
  refine ⟨⟨5, 3 + (k4 : Int), (k9 : Int) - 1⟩, ⟨⟨?_, ?_⟩, ⟨?_, ?_⟩, ⟨?_, ?_⟩⟩, fun w => ?_⟩
  iterate 6 (first | omega | (dsimp only; omega))
  have z1 := wz1 k4 l4
  have z2 := wz2 k4 l4
  have z3 := wz3 k9 (by omega)
  have z4 := wz3 k12 (by omega)
  clear h2 h40 e2 e40 l4 l40 l9 l12
  go_enter Try.func105, Try.ntmps105
  go_wp2_with fail
  refine Calls.mono (W2.out _) ?_
  rintro e wa ⟨rfl, rfl⟩
  go_wp2_with fail
  refine Calls.mono (W3.out _) ?_
  rintro e wa ⟨rfl, rfl⟩
  go_wp2_with fail
  refine Calls.mono (W4.out _) ?_
  rintro e wa ⟨rfl, rfl⟩
  clear hc3 hk3'
  go_wp2_with fail
  refine Calls.mono (W40.out _) ?_
  rintro e wa ⟨rfl, rfl⟩
  go_wp2_with fail
  refine Calls.mono (W9.out _) ?_
  rintro e wa ⟨rfl, rfl⟩
  go_wp2
  refine bodyPost_ret (v := .agg #[.int .i64 (5), .int .i64 (3 + (k4 : Int)), .int .i64 ((k9 : Int) - 1)]) (by simp [results, Try.results105, go_sem, z1, z2, z3, z4]) rfl ⟨rfl, ?_⟩
  exact belA3 (belR _)
theorem pgeom_0_39 (n : Int) (hn : i64b n) (h2 : withinI n 2 = 0) (h40 : withinI (n.tdiv 24) 40 = 39) : ∃ G : Geo, G.In ∧ FixGeo n G := by
  have HQ := Lib.hid (tdiv_in hn)
  obtain ⟨k2, e2, _, W2⟩ := within_nat n 2 (by decide) (by decide) hn
  obtain ⟨k3, _, l3, W3⟩ := within_nat (n.tdiv 2) 3 (by decide) (by decide) (HQ.out _ (by decide))
  obtain ⟨k4, _, l4, W4⟩ := within_nat (n.tdiv 6) 4 (by decide) (by decide) (HQ.out _ (by decide))
  obtain ⟨k40, e40, l40, W40⟩ := within_nat (n.tdiv 24) 40 (by decide) (by decide) (HQ.out _ (by decide))
  obtain ⟨k9, _, l9, W9⟩ := within_nat n 9 (by decide) (by decide) hn
  obtain ⟨k12, _, l12, W12⟩ := within_nat n 12 (by decide) (by decide) hn
  have hk3' : (0 : Int) ≤ (k3 : Int) := by omega
  obtain ⟨c3, hc3, hc4, HC3⟩ := lit124 k3 l3
  have hk2 : k2 = 0 := by omega
  subst hk2
  have hk40 : k40 = 39 := by omega
  subst hk40
  have HN := Lib.hid hn
  obtain ⟨n1, n2⟩ := hn
  refine ⟨⟨5, 8, (c3 : Int)⟩, ⟨⟨?_, ?_⟩, ⟨?_, ?_⟩, ⟨?_, ?_⟩⟩, fun w => ?_⟩
  iterate 6 (first | omega | (dsimp only; omega))
  have z1 := wz1 k4 l4
  have z2 := wz2 k4 l4
  have z3 := wz3 k9 (by omega)
  have z4 := wz3 k12 (by omega)
  clear h2 h40 e2 e40 l4 l40 l9 l12
  go_enter Try.func105, Try.ntmps105
  go_wp2_with fail
  refine Calls.mono (W2.out _) ?_
  rintro e wa ⟨rfl, rfl⟩
  go_wp2_with fail
  refine Calls.mono (W3.out _) ?_
  rintro e wa ⟨rfl, rfl⟩
  go_wp2_with fail
  refine Calls.mono (W4.out _) ?_
  rintro e wa ⟨rfl, rfl⟩
  clear hc3 hk3'
  go_wp2_with fail
  refine Calls.mono (W40.out _) ?_
  rintro e wa ⟨rfl, rfl⟩
  go_wp2
  refine bodyPost_ret (v := .agg #[.int .i64 (5), .int .i64 (8), .int .i64 ((c3 : Int))]) (by simp [results, Try.results105, go_sem, z1, z2, z3, z4]) rfl ⟨rfl, ?_⟩
  exact belA3 (belR _)
end Go.Proofs.Ytenjpldinnbcbaa
