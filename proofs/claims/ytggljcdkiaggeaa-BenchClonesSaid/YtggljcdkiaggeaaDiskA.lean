/- What a disk's methods do, whatever is asked. -/
import Derived.Test.YtggljcdkiaggeaaDiskL
import Derived.Test.YtggljcdkiaggeaaDiskDm
namespace Go.Proofs.Ytggljcdkiaggeaa
open Go.RowKit
set_option linter.unusedVariables false
set_option linter.unusedSimpArgs false
set_option maxRecDepth 100000
set_option maxHeartbeats 1000000
namespace D
def readL (d : Dk) (at' : Int) : List Nat := if may d at' = 0 then look d at'.toNat else []
def wrote (d : Dk) (at' : Int) (x : List Nat) : Dk := if putI d at' x = 0 then write d at'.toNat x else d
def hurt (d : Dk) (at' : Int) (x : List Nat) : Dk := if putI d at' x = 0 then damage d at'.toNat x else d
def flushed (d : Dk) : Dk := if d.f then d else flush d
theorem may_zero {d : Dk} {at' : Int} (h : may d at' = 0) : d.f = false ∧ 0 ≤ at' ∧ at' < 52 := by
  unfold may at h
  by_cases hf : d.f = true
  · rw [if_pos hf] at h; omega
  · rw [if_neg hf] at h
    by_cases h2 : at' < 0 ∨ 52 ≤ at'
    · rw [if_pos h2] at h; omega
    · exact ⟨by simpa using hf, by omega, by omega⟩
theorem put_zero {d : Dk} {at' : Int} {x : List Nat} (h : putI d at' x = 0) : d.f = false ∧ 0 ≤ at' ∧ at' < 52 ∧ x.length = 32 := by
  unfold putI at h
  by_cases hm : may d at' ≠ 0
  · rw [if_pos hm] at h; exact absurd h hm
  · rw [if_neg hm] at h
    obtain ⟨h1, h2, h3⟩ := may_zero (Classical.byContradiction hm)
    by_cases hl : x.length ≠ 32
    · rw [if_pos hl] at h; omega
    · exact ⟨h1, h2, h3, Classical.byContradiction hl⟩
end D
theorem readA (w : World) (base g : Nat) (pv : Value) (d : D.Dk) (at' : Int) (h : IsDisk w base g pv d) :
    Calls Try.prog 19 #[.pointer (some ⟨g, 0, none⟩), .int .i64 at'] w fun e w' => ∃ v, e = .returned (.tuple #[v, .int .i64 (D.may d at')]) ∧ Own w' w.heap.size v (D.readL d at') ∧ Below w.heap.size w w' := by
  by_cases hm : D.may d at' = 0
  · obtain ⟨h1, h2, h3⟩ := D.may_zero hm
    unfold D.readL
    rw [if_pos hm, hm]
    exact readI w base g pv d at' h h1 h2 h3
  · unfold D.readL
    rw [if_neg hm]
    exact (read_no w base g pv d at' h hm).mono (by rintro e w' ⟨rfl, rfl⟩; exact ⟨_, rfl, Own.empty _ _, belR _⟩)
theorem writeA (w : World) (base g : Nat) (pv : Value) (d : D.Dk) (at' : Int) (bv : Value) (x : List Nat) (h : IsDisk w base g pv d) (hx : Byt w bv x) (hb0 : base ≤ w.heap.size) (hsz : (d.p.length + 1) * 40 ≤ 140737488355328) :
    Calls Try.prog 16 #[.pointer (some ⟨g, 0, none⟩), .int .i64 at', bv] w fun e w' => e = .returned (.int .i64 (putI d at' x)) ∧ ∃ pv', IsDisk w' base g pv' (D.wrote d at' x) ∧ Fr (ofD g pv) w w' ∧ (∀ b, pv'.ownBlock = some b → pv.ownBlock = some b ∨ w.heap.size ≤ b) := by
  by_cases hm : putI d at' x = 0
  · obtain ⟨h1, h2, h3, h4⟩ := D.put_zero hm
    unfold D.wrote
    rw [if_pos hm, hm]
    exact writeI w base g pv d at' bv x h hx h1 h2 h3 h4 hb0 hsz
  · unfold D.wrote
    rw [if_neg hm]
    exact (write_no w base g pv d at' bv x h hx hm).mono (by rintro e w' ⟨rfl, hb⟩; exact ⟨rfl, pv, h.up hb, Fr.of_below hb, fun b hb => .inl hb⟩)
theorem dmgA (w : World) (base g : Nat) (pv : Value) (d : D.Dk) (at' : Int) (bv : Value) (x : List Nat) (h : IsDisk w base g pv d) (hx : Byt w bv x) (hb0 : base ≤ w.heap.size) (hsz : d.p.length * 40 ≤ 140737488355328) :
    Calls Try.prog 26 #[.pointer (some ⟨g, 0, none⟩), .int .i64 at', bv] w fun e w' => e = .returned (.int .i64 (putI d at' x)) ∧ ∃ pv', IsDisk w' base g pv' (D.hurt d at' x) ∧ Fr (ofD g pv) w w' ∧ (∀ b, pv'.ownBlock = some b → pv.ownBlock = some b ∨ w.heap.size ≤ b) := by
  by_cases hm : putI d at' x = 0
  · obtain ⟨h1, h2, h3, h4⟩ := D.put_zero hm
    unfold D.hurt
    rw [if_pos hm, hm]
    obtain ⟨a, rfl⟩ := Int.eq_ofNat_of_zero_le h2
    exact (dmg_yes w base g pv d a bv x h hx h1 (by omega) h4 hb0 hsz).mono (by rintro e w' ⟨rfl, pv', h5, h6, h7⟩; exact ⟨rfl, pv', h5, h6.obj, fun b hb => .inr (h7 b hb)⟩)
  · unfold D.hurt
    rw [if_neg hm]
    exact (dmg_no w base g pv d at' bv x h hx hm).mono (by rintro e w' ⟨rfl, hb⟩; exact ⟨rfl, pv, h.up hb, Fr.of_below hb, fun b hb => .inl hb⟩)
theorem flushA (w : World) (base g : Nat) (pv : Value) (d : D.Dk) (h : IsDisk w base g pv d) :
    Calls Try.prog 18 #[.pointer (some ⟨g, 0, none⟩)] w fun e w' => e = .returned (.int .i64 (if d.f then 5 else 0)) ∧ ∃ pv', IsDisk w' base g pv' (D.flushed d) ∧ Fr (ofD g pv) w w' ∧ (∀ b, pv'.ownBlock = some b → pv.ownBlock = some b ∨ w.heap.size ≤ b) := by
  by_cases hf : d.f = true
  · unfold D.flushed
    rw [if_pos hf, if_pos hf]
    exact (flush_no w base g pv d h hf).mono (by rintro e w' ⟨rfl, rfl⟩; exact ⟨rfl, pv, h, Fr.refl _ _, fun b hb => .inl hb⟩)
  · unfold D.flushed
    rw [if_neg hf, if_neg hf]
    exact (flush_any w base g pv d h (by simpa using hf)).mono (by rintro e w' ⟨rfl, h1, h2⟩; exact ⟨rfl, .slice none 0 0, h1, h2.obj, fun b hb => by cases hb⟩)
end Go.Proofs.Ytggljcdkiaggeaa
