/- Merged: PlayG, SlG0. -/
import Derived.Test.YtenjpldinnbcbaaGeoA
import Derived.Test.YtenjpldinnbcbaaPlay
import Derived.Test.YtenjpldinnbcbaaSupA
/- The walks of wattleplay's geometries: each answers a geometry of the machine's numbers. -/

namespace Go.Proofs.Ytenjpldinnbcbaa
open Go.RowKit
set_option linter.unusedVariables false
set_option linter.unusedSimpArgs false
set_option maxRecDepth 100000
set_option maxHeartbeats 4000000

theorem bcell {W w1 : World} (hb : Below W.heap.size W w1) : (∀ b o, b < W.heap.size → w1.cell? ⟨b, o, none⟩ = W.cell? ⟨b, o, none⟩) ∧ (∀ b o, b < W.heap.size → w1.frozen? ⟨b, o, none⟩ = W.frozen? ⟨b, o, none⟩) :=
  ⟨fun b o h => hb.cell (p := ⟨b, o, none⟩) h, fun b o h => hb.frozen (p := ⟨b, o, none⟩) h⟩
theorem within_ex (v n : Int) (w : World) (hn : n ≤ 9223372036854775807) (hn1 : 1 ≤ n) (hv : i64b v) :
    Calls Try.prog 22 #[.int .i64 v, .int .i64 n] w fun e w' => ∃ k : Nat, e = .returned (.int .i64 (k : Int)) ∧ (k : Int) < n ∧ w = w' := by
  refine (within_any v n w hn hv.1 hv.2).mono fun e w' ⟨he, hw⟩ => ?_
  have h1 := withinI_ge v n
  have h2 := withinI_lt v n hn1
  exact ⟨(withinI v n).toNat, by rw [he, Int.toNat_of_nonneg h1], by omega, hw⟩
def SomeGeo (w : World) (e : Ending) (w' : World) : Prop := ∃ l d c : Int, e = .returned (.agg #[.int .i64 l, .int .i64 d, .int .i64 c]) ∧ (Geo.mk l d c).In ∧ Below w.heap.size w w'
theorem tdiv_in {n : Int} (hn : i64b n) (m : Int) (hm : 1 ≤ m) : i64b (n.tdiv m) := by
  obtain ⟨n1, n2⟩ := hn
  have h := Int.natAbs_tdiv_le_natAbs n m
  unfold i64b
  by_cases h0 : 0 ≤ n
  · have := Int.tdiv_nonneg h0 (show 0 ≤ m by omega)
    omega
  · have h2 := Int.neg_tdiv (-n) m
    rw [Int.neg_neg] at h2
    have := Int.tdiv_nonneg (show 0 ≤ -n by omega) (show 0 ≤ m by omega)
    omega
theorem lit124 (k : Nat) (hk : (k : Int) < 3) : ∃ c : Nat, (#[Value.int .i64 1, .int .i64 2, .int .i64 4] : Array Value)[k]? = some (.int .i64 (c : Int)) ∧ c ≤ 4 ∧ Hid (c = 1 ∨ c = 2 ∨ c = 4) := by
  have : k = 0 ∨ k = 1 ∨ k = 2 := by omega
  rcases this with rfl | rfl | rfl
  · exact ⟨1, rfl, by decide, .inl rfl⟩
  · exact ⟨2, rfl, by decide, .inr (.inl rfl)⟩
  · exact ⟨4, rfl, by decide, .inr (.inr rfl)⟩
theorem pgeom_any (n : Int) (w : World) (hn : i64b n) : Calls Try.prog 105 #[.int .i64 n] w (SomeGeo w) := by
  have HQ := Lib.hid (tdiv_in hn)
  have HN := Lib.hid hn
  obtain ⟨n1, n2⟩ := hn
  go_enter Try.func105, Try.ntmps105
  go_wp2_with fail
  refine Calls.mono (within_ex n 2 _ (by decide) (by decide) HN.out) ?_
  rintro e wa ⟨k2, rfl, hk2, rfl⟩
  go_wp2_with fail
  refine Calls.mono (within_ex (n.tdiv 2) 3 _ (by decide) (by decide) (HQ.out _ (by decide))) ?_
  rintro e wa ⟨k3, rfl, hk3, rfl⟩
  have hk3' : (0 : Int) ≤ (k3 : Int) := by omega
  obtain ⟨c3, hc3, hc4, HC3⟩ := lit124 k3 hk3
  go_wp2_with fail
  refine Calls.mono (within_ex (n.tdiv 6) 4 _ (by decide) (by decide) (HQ.out _ (by decide))) ?_
  rintro e wa ⟨k4, rfl, hk4, rfl⟩
  clear hc3 hk3 hk3'
  have hb : ((5 + (k2 : Int)) == 6) = true ∨ ((5 + (k2 : Int)) == 6) = false := by cases ((5 + (k2 : Int)) == 6) <;> simp
  rcases hb with hb | hb
  · go_wp2_with fail
    refine Calls.mono (within_ex (n.tdiv 6) 4 _ (by decide) (by decide) (HQ.out _ (by decide))) ?_
    rintro e wa ⟨k5, rfl, hk5, rfl⟩
    go_wp2_with fail
    refine Calls.mono (within_ex (n.tdiv 24) 40 _ (by decide) (by decide) (HQ.out _ (by decide))) ?_
    rintro e wa ⟨k40, rfl, hk40, rfl⟩
    go_wp2_with (go_at_call 22; refine Calls.mono (within_ex n _ _ (by decide) (by decide) HN.out) ?_; rintro e wa ⟨k, rfl, hk, rfl⟩)
    all_goals
      refine bodyPost_ret (v := .agg #[.int .i64 _, .int .i64 _, .int .i64 _]) (by simp [results, Try.results105, go_sem]; first | exact ⟨rfl, rfl, rfl⟩ | rfl) rfl ⟨_, _, _, rfl, ⟨⟨?_, ?_⟩, ⟨?_, ?_⟩, ⟨?_, ?_⟩⟩, ?_⟩
      all_goals first | omega | (dsimp only; omega) | exact belA3 (belR _)
  · go_wp2_with fail
    refine Calls.mono (within_ex (n.tdiv 24) 40 _ (by decide) (by decide) (HQ.out _ (by decide))) ?_
    rintro e wa ⟨k40, rfl, hk40, rfl⟩
    go_wp2_with (go_at_call 22; refine Calls.mono (within_ex n _ _ (by decide) (by decide) HN.out) ?_; rintro e wa ⟨k, rfl, hk, rfl⟩)
    all_goals
      refine bodyPost_ret (v := .agg #[.int .i64 _, .int .i64 _, .int .i64 _]) (by simp [results, Try.results105, go_sem]; first | exact ⟨rfl, rfl, rfl⟩ | rfl) rfl ⟨_, _, _, rfl, ⟨⟨?_, ?_⟩, ⟨?_, ?_⟩, ⟨?_, ?_⟩⟩, ?_⟩
      all_goals first | omega | (dsimp only; omega) | exact belA3 (belR _)
def GoodGeo (w : World) (e : Ending) (w' : World) : Prop := ∃ l d c : Int, e = .returned (.agg #[.int .i64 l, .int .i64 d, .int .i64 c]) ∧ (Geo.mk l d c).ok = true ∧ Below w.heap.size w w'
theorem pgood_any (n : Int) (w : World) (hn : i64b n) : Calls Try.prog 78 #[.int .i64 n] w (GoodGeo w) := by
  go_enter Try.func78, Try.ntmps78
  go_wp2_with fail
  refine Calls.mono (pgeom_any n _ hn) ?_
  rintro e w1 ⟨l, d, c, rfl, hin, b1⟩
  obtain ⟨hl, hd, hc⟩ := hin
  dsimp only at hl hd hc
  have z1 : w.heap.size < w1.heap.size := by have := b1.size; simp at this; omega
  have z2 : w.heap.size < w1.heap.size + 1 := by omega
  have z3 : ¬ w.heap.size = w1.heap.size := by omega
  obtain ⟨hc1, hf1⟩ := bcell b1
  cases hok : (Geo.mk l d c).ok with
  | true =>
    have HOK := Lib.hid hok
    clear hok
    go_wp2_with (go_at_call 106; refine Calls.mono (refgcheck_any l d c _ hl hd hc) ?_; rw [HOK.out]; rintro e w2 ⟨rfl, b2⟩; obtain ⟨hc2, hf2⟩ := bcell b2)
    refine bodyPost_ret (v := .agg #[.int .i64 l, .int .i64 d, .int .i64 c]) (by simp [results, Try.results78, go_sem, hc2, hc1, z1, z2]) rfl ⟨l, d, c, rfl, HOK.out, ?_⟩
    exact (((belT (belT (belA1 (belR _)) b1) (belT (belA1 (belR _)) b2)).setCell (Nat.le_refl _) _).setCell (Nat.le_refl _) _).setCell (Nat.le_refl _) _
  | false =>
    have HOK := Lib.hid hok
    clear hok
    go_wp2_with (go_at_call 106; refine Calls.mono (refgcheck_any l d c _ hl hd hc) ?_; rw [HOK.out]; rintro e w2 ⟨rfl, b2⟩; obtain ⟨hc2, hf2⟩ := bcell b2)
    refine bodyPost_ret (v := .agg #[.int .i64 5, .int .i64 3, .int .i64 1]) (by simp [results, Try.results78, go_sem, hc2, hc1, z1, z2]) rfl ⟨5, 3, 1, rfl, rfl, ?_⟩
    exact (((belT (belT (belA1 (belR _)) b1) (belT (belA1 (belR _)) b2)).setCell (Nat.le_refl _) _).setCell (Nat.le_refl _) _).setCell (Nat.le_refl _) _
end Go.Proofs.Ytenjpldinnbcbaa
/- wattleplay.Geom and Good: each number has one geometry, whatever the world; wattlelaw10.one. -/

namespace Go.Proofs.Ytenjpldinnbcbaa
open Go.RowKit
set_option linter.unusedVariables false
set_option linter.unusedSimpArgs false
set_option maxRecDepth 100000
set_option maxHeartbeats 4000000

def FixGeo (n : Int) (G : Geo) : Prop := ∀ w : World, Calls Try.prog 105 #[.int .i64 n] w fun e w' => e = .returned (.agg #[.int .i64 G.l, .int .i64 G.d, .int .i64 G.c]) ∧ Below w.heap.size w w'
theorem wz1 (k : Nat) (h : (k : Int) < 4) : wrap64 (3 + (k : Int)) = 3 + (k : Int) := by unfold wrap64; omega
theorem wz2 (k : Nat) (h : (k : Int) < 4) : wrap64 (4 + (k : Int)) = 4 + (k : Int) := by unfold wrap64; omega
theorem wz3 (k : Nat) (h : (k : Int) < 100) : wrap64 ((k : Int) - 1) = (k : Int) - 1 := by unfold wrap64; omega
theorem within_nat (v n : Int) (hn : n ≤ 9223372036854775807) (hn1 : 1 ≤ n) (hv : i64b v) :
    ∃ k : Nat, withinI v n = (k : Int) ∧ (k : Int) < n ∧ Hid (∀ w : World, Calls Try.prog 22 #[.int .i64 v, .int .i64 n] w fun e w' => e = .returned (.int .i64 (k : Int)) ∧ w = w') := by
  have h1 := withinI_ge v n
  have h2 := withinI_lt v n hn1
  refine ⟨(withinI v n).toNat, by rw [Int.toNat_of_nonneg h1], by omega, Lib.hid fun w => ?_⟩
  have := within_any v n w hn hv.1 hv.2
  rwa [← Int.toNat_of_nonneg h1] at this
end Go.Proofs.Ytenjpldinnbcbaa
