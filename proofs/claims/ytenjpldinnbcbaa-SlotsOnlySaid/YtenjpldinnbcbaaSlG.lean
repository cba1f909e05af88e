/- wattleplay.Geom and Good: each number has one geometry, whatever the world; wattlelaw10.one. -/
import Derived.Test.YtenjpldinnbcbaaSlGa
import Derived.Test.YtenjpldinnbcbaaSlGb
namespace Go.Proofs.Ytenjpldinnbcbaa
open Go.RowKit
set_option linter.unusedVariables false
set_option linter.unusedSimpArgs false
set_option maxRecDepth 100000
set_option maxHeartbeats 4000000

theorem pgeom_fix (n : Int) (hn : i64b n) : ∃ G : Geo, G.In ∧ FixGeo n G := by
  have h1 := withinI_ge n 2
  have h2 := withinI_lt n 2 (by decide)
  have h3 := withinI_lt (n.tdiv 24) 40 (by decide)
  by_cases a : withinI n 2 = 0
  · by_cases b : withinI (n.tdiv 24) 40 < 36
    · exact pgeom_0_0 n hn a b
    · have : withinI (n.tdiv 24) 40 = 36 ∨ withinI (n.tdiv 24) 40 = 37 ∨ withinI (n.tdiv 24) 40 = 38 ∨ withinI (n.tdiv 24) 40 = 39 := by omega
      rcases this with h | h | h | h
      · exact pgeom_0_36 n hn a h
      · exact pgeom_0_37 n hn a h
      · exact pgeom_0_38 n hn a h
      · exact pgeom_0_39 n hn a h
  · have a : withinI n 2 = 1 := by omega
    by_cases b : withinI (n.tdiv 24) 40 < 36
    · exact pgeom_1_0 n hn a b
    · have : withinI (n.tdiv 24) 40 = 36 ∨ withinI (n.tdiv 24) 40 = 37 ∨ withinI (n.tdiv 24) 40 = 38 ∨ withinI (n.tdiv 24) 40 = 39 := by omega
      rcases this with h | h | h | h
      · exact pgeom_1_36 n hn a h
      · exact pgeom_1_37 n hn a h
      · exact pgeom_1_38 n hn a h
      · exact pgeom_1_39 n hn a h
theorem pgood_fix (n : Int) (hn : i64b n) : ∃ G : Geo, G.ok = true ∧ ∀ w : World, Calls Try.prog 78 #[.int .i64 n] w fun e w' => e = .returned (.agg #[.int .i64 G.l, .int .i64 G.d, .int .i64 G.c]) ∧ Below w.heap.size w w' := by
  obtain ⟨⟨l, d, c⟩, hin, hfix⟩ := pgeom_fix n hn
  have HF := Lib.hid hfix
  obtain ⟨hl, hd, hc⟩ := hin
  dsimp only at hl hd hc
  clear hfix
  cases hok : (Geo.mk l d c).ok with
  | true =>
    refine ⟨⟨l, d, c⟩, hok, fun w => ?_⟩
    have HOK := Lib.hid hok
    clear hok
    go_enter Try.func78, Try.ntmps78
    go_wp2_with fail
    refine Calls.mono (HF.out _) ?_
    rintro e w1 ⟨rfl, b1⟩
    dsimp only
    have z1 : w.heap.size < w1.heap.size := by have := b1.size; simp at this; omega
    have z2 : w.heap.size < w1.heap.size + 1 := by omega
    have z3 : ¬ w.heap.size = w1.heap.size := by omega
    obtain ⟨hc1, hf1⟩ := bcell b1
    go_wp2_with (go_at_call 106; refine Calls.mono (refgcheck_any l d c _ hl hd hc) ?_; rw [HOK.out]; rintro e w2 ⟨rfl, b2⟩; obtain ⟨hc2, hf2⟩ := bcell b2)
    refine bodyPost_ret (v := .agg #[.int .i64 l, .int .i64 d, .int .i64 c]) (by simp [results, Try.results78, go_sem, hc2, hc1, z1, z2]) rfl ⟨rfl, ?_⟩
    exact (((belT (belT (belA1 (belR _)) b1) (belT (belA1 (belR _)) b2)).setCell (Nat.le_refl _) _).setCell (Nat.le_refl _) _).setCell (Nat.le_refl _) _
  | false =>
    refine ⟨⟨5, 3, 1⟩, rfl, fun w => ?_⟩
    have HOK := Lib.hid hok
    clear hok
    go_enter Try.func78, Try.ntmps78
    go_wp2_with fail
    refine Calls.mono (HF.out _) ?_
    rintro e w1 ⟨rfl, b1⟩
    dsimp only
    have z1 : w.heap.size < w1.heap.size := by have := b1.size; simp at this; omega
    have z2 : w.heap.size < w1.heap.size + 1 := by omega
    have z3 : ¬ w.heap.size = w1.heap.size := by omega
    obtain ⟨hc1, hf1⟩ := bcell b1
    go_wp2_with (go_at_call 106; refine Calls.mono (refgcheck_any l d c _ hl hd hc) ?_; rw [HOK.out]; rintro e w2 ⟨rfl, b2⟩; obtain ⟨hc2, hf2⟩ := bcell b2)
    refine bodyPost_ret (v := .agg #[.int .i64 5, .int .i64 3, .int .i64 1]) (by simp [results, Try.results78, go_sem, hc2, hc1, z1, z2]) rfl ⟨rfl, ?_⟩
    exact (((belT (belT (belA1 (belR _)) b1) (belT (belA1 (belR _)) b2)).setCell (Nat.le_refl _) _).setCell (Nat.le_refl _) _).setCell (Nat.le_refl _) _
/-- the Super of a generation, of a geometry and an epoch -/
def supG (G : Geo) (ep : Nat) (g : Int) : Sup := ⟨g, G, Geo.zero, false, 0, (ep : Int), 0⟩
theorem supG_ok {G : Geo} (hG : G.ok = true) {ep : Nat} (he : ep < 100) {g : Int} (h1 : 1 ≤ g) (h2 : g ≤ 2147483647) : (supG G ep g).ok = true := by
  rw [Sup.ok_iff]
  refine ⟨⟨h1, h2⟩, hG, ?_, ⟨?_, ?_⟩, ⟨by show (0 : Int) ≤ 0; omega, by show (0 : Int) ≤ 255; omega⟩⟩
  · rfl
  · show (0 : Int) ≤ (ep : Int); omega
  · show (ep : Int) ≤ 65535; omega
theorem one_fix (n : Int) (hn : i64b n) : ∃ (G : Geo) (ep : Nat), G.ok = true ∧ ep < 100 ∧ ∀ (g : Int) (w : World), Calls Try.prog 37 #[.int .i64 g, .int .i64 n] w fun e w' => e = .returned (sv (supG G ep g)) ∧ Below w.heap.size w w' := by
  obtain ⟨⟨l, d, c⟩, hok, hfix⟩ := pgood_fix n hn
  obtain ⟨ep, _, hep, WE⟩ := within_nat n 100 (by decide) (by decide) hn
  have HF := Lib.hid hfix
  refine ⟨⟨l, d, c⟩, ep, hok, by omega, fun g w => ?_⟩
  clear hfix hok hep
  go_enter Try.func37, Try.ntmps37
  go_wp2_with fail
  refine Calls.mono (HF.out _) ?_
  rintro e w1 ⟨rfl, b1⟩
  dsimp only
  have z1 : w.heap.size < w1.heap.size := by have := b1.size; simp at this; omega
  obtain ⟨hc1, hf1⟩ := bcell b1
  go_wp2_with fail
  refine Calls.mono (WE.out _) ?_
  rintro e wa ⟨rfl, rfl⟩
  go_wp2
  refine bodyPost_ret (v := sv (supG ⟨l, d, c⟩ ep g)) (by simp [results, Try.results37, go_sem, hc1, z1, sv, supG, Geo.zero]) rfl ⟨rfl, ?_⟩
  have BE := belT (belA1 (belR w)) b1
  exact (((((((((((BE.setCell (Nat.le_refl _) _).setCell (Nat.le_refl _) _).setCell (Nat.le_refl _) _).setCell (Nat.le_refl _) _).setCell (Nat.le_refl _) _).setCell (Nat.le_refl _) _).setCell (Nat.le_refl _) _).setCell (Nat.le_refl _) _).setCell (Nat.le_refl _) _).setCell (Nat.le_refl _) _).setCell (Nat.le_refl _) _)
end Go.Proofs.Ytenjpldinnbcbaa
