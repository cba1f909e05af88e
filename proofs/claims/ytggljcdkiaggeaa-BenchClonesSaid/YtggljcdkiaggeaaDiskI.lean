/- What a disk's methods do, at any place that may be; and the document's own example. -/
import Derived.Test.YtggljcdkiaggeaaDiskWr
import Derived.Test.YtggljcdkiaggeaaDiskCr
import Derived.Test.YtggljcdkiaggeaaDiskFl
import Derived.Test.YtggljcdkiaggeaaDiskR
import Derived.Test.YtggljcdkiaggeaaDiskFa
import Derived.Test.YtggljcdkiaggeaaPlay
namespace Go.Proofs.Ytggljcdkiaggeaa
open Go.RowKit
set_option linter.unusedVariables false
set_option linter.unusedSimpArgs false
set_option maxRecDepth 100000
set_option maxHeartbeats 1000000

theorem readI (w : World) (base g : Nat) (pv : Value) (d : D.Dk) (at' : Int) (h : IsDisk w base g pv d) (hf : d.f = false) (h0 : 0 ≤ at') (h1 : at' < 52) :
    Calls Try.prog 19 #[.pointer (some ⟨g, 0, none⟩), .int .i64 at'] w fun e w' => ∃ v, e = .returned (.tuple #[v, .int .i64 0]) ∧ Own w' w.heap.size v (D.look d at'.toNat) ∧ Below w.heap.size w w' := by
  obtain ⟨a, rfl⟩ := Int.eq_ofNat_of_zero_le h0
  exact read_yes w base g pv d a h hf (by omega)
theorem writeI (w : World) (base g : Nat) (pv : Value) (d : D.Dk) (at' : Int) (bv : Value) (x : List Nat) (h : IsDisk w base g pv d) (hx : Byt w bv x) (hf : d.f = false) (h0 : 0 ≤ at') (h1 : at' < 52) (hl : x.length = 32) (hb0 : base ≤ w.heap.size) (hsz : (d.p.length + 1) * 40 ≤ 140737488355328) :
    Calls Try.prog 16 #[.pointer (some ⟨g, 0, none⟩), .int .i64 at', bv] w fun e w' => e = .returned (.int .i64 0) ∧ ∃ pv', IsDisk w' base g pv' (D.write d at'.toNat x) ∧ Fr (ofD g pv) w w' ∧ (∀ b, pv'.ownBlock = some b → pv.ownBlock = some b ∨ w.heap.size ≤ b) := by
  obtain ⟨a, rfl⟩ := Int.eq_ofNat_of_zero_le h0
  exact write_yes w base g pv d a bv x h hx hf (by omega) hl hb0 hsz
theorem newI (w : World) : Calls Try.prog 14 #[] w fun e w' => e = .returned (.pointer (some ⟨w.heap.size, 0, none⟩)) ∧ IsDisk w' w.heap.size w.heap.size (.slice none 0 0) D.blank ∧ Below w.heap.size w w' :=
  (new_any w).mono (by rintro e w' ⟨rfl, rfl⟩; exact ⟨rfl, new_disk (Nat.le_refl _), belA1 (belR w)⟩)
theorem IsDisk.low {w : World} {base base' g : Nat} {pv : Value} {d : D.Dk} (h : IsDisk w base g pv d) (hb : base' ≤ base) : IsDisk w base' g pv d := by
  refine ⟨Nat.le_trans hb h.ge, h.lt, h.cells, h.there, ?_, h.ok, h.ap⟩
  refine ⟨h.pend.1, ?_⟩
  rcases h.pend.2 with h1 | ⟨b, cap, cur, e, h2, h3⟩
  · exact .inl h1
  · exact .inr ⟨b, cap, cur, e, Nat.le_trans hb h2, h3⟩
/-- what keeps a value apart from a disk that was made later -/
theorem Own.dfr {w w' : World} {base b2 g : Nat} {v pv : Value} {d : D.Dk} {l : List Nat} (h : Own w b2 v l) (k : Fr (ofD g pv) w w') (hb : ∀ b, v.ownBlock = some b → ¬ ofD g pv b) : Own w' b2 v l := h.fr k hb
theorem blank_look : D.look D.blank 0 = List.replicate 32 0 := rfl
attribute [local irreducible] Go.Calls Byt Own Parts
theorem wakes_any (W : World) : Calls Try.prog 21 #[] W fun e w' => e = .returned (.bool true) ∧ Below W.heap.size W w' := by
  obtain ⟨j0, hj, hy0, hy1, hy2⟩ := info_parts uint8_info
  go_enter Try.func21, Try.ntmps21
  go_wp2_with fail
  refine Calls.mono (newI W) ?_
  rintro e w1 ⟨rfl, D1, b1⟩
  go_wp2_with fail
  refine Calls.mono (readI w1 _ _ _ _ 0 D1 rfl (by decide) (by decide)) ?_
  rintro e w2 ⟨v2, rfl, O2, b2⟩
  have D2 := D1.up b2
  have B2 := belT b1 b2
  clear D1 b1
  go_wp2_with (first
    | (at_make; refine wpList_unguard (by rfl) ?_; go_loud (refine wpList_make_bytes rfl _ _ 29 rfl j0 Try.underlying29 hj hy0 hy1 hy2 _ _ _ _ 32 rfl rfl rfl rfl (by decide) ?_); intro w3 O3 b3)
    | fail)
  refine Calls.mono (same_any _ _ (List.replicate 32 0) (List.replicate 32 0) _ (O2.byt.up b3) O3.byt) ?_
  rw [decide_eq_true rfl]
  rintro e w4 ⟨rfl, d4⟩
  have D4 := (D2.up b3).up (d4.below _)
  have B4 := (belT (belT B2 b3) (d4.below _))
  go_wp2_with fail
  refine Calls.mono (pending_any _ _ _ _ _ D4) ?_
  rintro e w5 ⟨rfl, rfl⟩
  go_wp2_with fail
  refine Calls.mono (failed_any _ _ _ _ _ D4) ?_
  rintro e w5 ⟨rfl, rfl⟩
  go_wp2
  go_ret
  exact ⟨rfl, B4⟩
end Go.Proofs.Ytggljcdkiaggeaa
