/- Merged: DiskI, DiskL, DiskA. -/
import Derived.Test.YtenjpldinnbcbaaDiskWr
import Derived.Test.YtenjpldinnbcbaaDiskFl
import Derived.Test.YtenjpldinnbcbaaPlay
import Derived.Test.YtenjpldinnbcbaaDiskDm
/- What a disk's methods do, at any place that may be; and the document's own example. -/

namespace Go.Proofs.Ytenjpldinnbcbaa
open Go.RowKit
set_option linter.unusedVariables false
set_option linter.unusedSimpArgs false
set_option maxRecDepth 100000
set_option maxHeartbeats 1000000

theorem readI (w : World) (base g : Nat) (pv : Value) (d : D.Dk) (at' : Int) (h : IsDisk w base g pv d) (hf : d.f = false) (h0 : 0 ≤ at') (h1 : at' < 52) :
    Calls Try.prog 65 #[.pointer (some ⟨g, 0, none⟩), .int .i64 at'] w fun e w' => ∃ v, e = .returned (.tuple #[v, .int .i64 0]) ∧ Own w' w.heap.size v (D.look d at'.toNat) ∧ Below w.heap.size w w' := by
  obtain ⟨a, rfl⟩ := Int.eq_ofNat_of_zero_le h0
  exact read_yes w base g pv d a h hf (by omega)
theorem writeI (w : World) (base g : Nat) (pv : Value) (d : D.Dk) (at' : Int) (bv : Value) (x : List Nat) (h : IsDisk w base g pv d) (hx : Byt w bv x) (hf : d.f = false) (h0 : 0 ≤ at') (h1 : at' < 52) (hl : x.length = 32) (hb0 : base ≤ w.heap.size) (hsz : (d.p.length + 1) * 40 ≤ 140737488355328) :
    Calls Try.prog 82 #[.pointer (some ⟨g, 0, none⟩), .int .i64 at', bv] w fun e w' => e = .returned (.int .i64 0) ∧ ∃ pv', IsDisk w' base g pv' (D.write d at'.toNat x) ∧ Fr (ofD g pv) w w' ∧ (∀ b, pv'.ownBlock = some b → pv.ownBlock = some b ∨ w.heap.size ≤ b) := by
  obtain ⟨a, rfl⟩ := Int.eq_ofNat_of_zero_le h0
  exact write_yes w base g pv d a bv x h hx hf (by omega) hl hb0 hsz
theorem newI (w : World) : Calls Try.prog 52 #[] w fun e w' => e = .returned (.pointer (some ⟨w.heap.size, 0, none⟩)) ∧ IsDisk w' w.heap.size w.heap.size (.slice none 0 0) D.blank ∧ Below w.heap.size w w' :=
  (new_any w).mono (by rintro e w' ⟨rfl, rfl⟩; exact ⟨rfl, new_disk (Nat.le_refl _), belA1 (belR w)⟩)
theorem IsDisk.low {w : World} {base base' g : Nat} {pv : Value} {d : D.Dk} (h : IsDisk w base g pv d) (hb : base' ≤ base) : IsDisk w base' g pv d := by
  refine ⟨Nat.le_trans hb h.ge, h.lt, h.cells, h.there, ?_, h.ok, h.ap⟩
  refine ⟨h.pend.1, ?_⟩
  rcases h.pend.2 with h1 | ⟨b, cap, cur, e, h2, h3⟩
  · exact .inl h1
  · exact .inr ⟨b, cap, cur, e, Nat.le_trans hb h2, h3⟩
/-- what keeps a value apart from a disk that was made later -/
theorem Own.dfr {w w' : World} {base b2 g : Nat} {v pv : Value} {d : D.Dk} {l : List Nat} (h : Own w b2 v l) (k : Fr (ofD g pv) w w') (hb : ∀ b, v.ownBlock = some b → ¬ ofD g pv b) : Own w' b2 v l := h.fr k hb
theorem blank_look : D.look D.blank 0 = List.replicate 32 0 := rfl
attribute [local irreducible] Go.Calls Byt Own Parts
end Go.Proofs.Ytenjpldinnbcbaa
/- What a disk reads as behind writes, flushes, crashes: in plain terms. -/

namespace Go.Proofs.Ytenjpldinnbcbaa
open Go.RowKit
set_option linter.unusedVariables false
set_option linter.unusedSimpArgs false
namespace D
theorem look_write_same (d : Dk) (a : Nat) (x : List Nat) : look (write d a x) a = x := by
  unfold look write
  rw [List.foldl_append]
  simp
theorem look_write_other (d : Dk) {a b : Nat} (x : List Nat) (h : a ≠ b) : look (write d a x) b = look d b := by
  unfold look write
  rw [List.foldl_append]
  simp [h]
theorem apply_get (p : List (Nat × List Nat)) : ∀ (l : List (List Nat)) (a : Nat), a < l.length → (apply l p).getD a [] = p.foldl (fun b w => if w.1 = a then w.2 else b) (l.getD a []) := by
  induction p with
  | nil => intro l a _; rfl
  | cons w p ih =>
    intro l a ha
    unfold apply at ih ⊢
    rw [List.foldl_cons, List.foldl_cons, ih _ a (by simpa using ha)]
    congr 1
    by_cases h : w.1 = a
    · rw [if_pos h, h]
      simp [List.getD, ha]
    · rw [if_neg h]
      simp [List.getD, List.getElem?_set_ne h]
theorem look_flush {d : Dk} (h : Ok d) {a : Nat} (ha : a < 52) : look (flush d) a = look d a := by
  unfold look flush
  exact apply_get d.p d.l a (by rw [h.len]; exact ha)
theorem kept_snoc : ∀ (p : List (Nat × List Nat)) (ks : List Bool) (v : Nat × List Nat), kept (p ++ [v]) ks = kept p ks ++ (if ks[p.length]? = some true then [v] else [])
  | [], [], v => by simp [kept]
  | [], b :: ks, v => by cases b <;> simp [kept]
  | w :: p, [], v => by simp [kept]
  | w :: p, b :: ks, v => by
    rw [List.cons_append]
    unfold kept
    rw [kept_snoc p ks v]
    cases b <;> simp
theorem look_crash {d : Dk} (h : Ok d) (ks : List Bool) {a : Nat} (ha : a < 52) : look (crash d ks) a = (kept d.p ks).foldl (fun b w => if w.1 = a then w.2 else b) (d.l.getD a []) := by
  unfold look crash
  exact apply_get _ d.l a (by rw [h.len]; exact ha)
theorem look_crash_write {d : Dk} (h : Ok d) (ks : List Bool) {a : Nat} {x : List Nat} (ha : a < 52) (hx : x.length = 32) (h8 : ∀ y ∈ x, y < 256) :
    look (crash (write d a x) ks) a = if ks[d.p.length]? = some true then x else look (crash d ks) a := by
  rw [look_crash (write_ok h ha hx h8) ks ha, look_crash h ks ha]
  show (kept (d.p ++ [(a, x)]) ks).foldl _ (d.l.getD a []) = _
  rw [kept_snoc, List.foldl_append]
  split <;> simp
theorem crash_idle {d : Dk} (h : d.p = []) (ks : List Bool) (hp : d.p = []) : crash d ks = d := by
  unfold crash
  rw [h]
  obtain ⟨l, p, f⟩ := d
  simp at h
  subst h
  rfl
theorem crash_none (d : Dk) : crash d [] = { d with p := [] } := by
  unfold crash
  have : kept d.p [] = [] := by cases d.p <;> simp [kept]
  rw [this]
  rfl
end D
theorem Bools.lt {w : World} {v : Value} {l : List Bool} (h : Bools w v l) (hn : l ≠ []) : ∀ b, v.ownBlock = some b → b < w.heap.size := by
  intro b hb
  obtain ⟨ao, cap, rfl, h1, h2, h0, h4⟩ := h
  rcases h4 with h4 | ⟨b', off, rfl, hlt, _⟩
  · exact absurd (by simpa using h4) hn
  · cases hb
    exact hlt
theorem secL_ok (n : Int) : (secL n).length = 32 ∧ ∀ x ∈ secL n, x < 256 := ⟨secL_len n, secL_byte n⟩
/-- a value apart from a disk stays so behind a write -/
theorem apart_new {w : World} {g : Nat} {v pv pv' : Value} (hold : ∀ b, v.ownBlock = some b → ¬ ofD g pv b) (hlt : ∀ b, v.ownBlock = some b → b < w.heap.size) (p : ∀ b, pv'.ownBlock = some b → pv.ownBlock = some b ∨ w.heap.size ≤ b) : ∀ b, v.ownBlock = some b → ¬ ofD g pv' b := by
  intro b hb hof
  rcases hof with rfl | h
  · exact hold _ hb (.inl rfl)
  · rcases p b h with h1 | h1
    · exact hold b hb (.inr h1)
    · have := hlt b hb
      omega
/-- a value that was made behind a disk is apart from it -/
theorem apart_made {w w' : World} {base base' g : Nat} {pv v : Value} {d : D.Dk} {l : List Nat} (h : IsDisk w base g pv d) (ho : Own w' base' v l) (hb : w.heap.size ≤ base') : ∀ b, v.ownBlock = some b → ¬ ofD g pv b := fun b hv hof => by
  have h1 := h.lts b hof
  have h2 := ho.ge b hv
  omega
theorem apart_none {g : Nat} {v pv : Value} (h : ∀ b, v.ownBlock = some b → ¬ ofD g pv b) : ∀ b, v.ownBlock = some b → ¬ ofD g (.slice none 0 0) b := fun b hb hof => by
  rcases hof with rfl | hof
  · exact h _ hb (.inl rfl)
  · cases hof
theorem Fr.obj {g : Nat} {pv : Value} {w w' : World} (h : Fr (fun b => b = g) w w') : Fr (ofD g pv) w w' := h.mono (fun b hb => .inl hb)
theorem Fr.low {B g : Nat} {pv : Value} {a w w' : World} (h : Below B a w) (k : Fr (ofD g pv) w w') (hB : B ≤ w.heap.size) (hg : ∀ b, ofD g pv b → B ≤ b) : Below B a w' := Fr.below h k hB hg
end Go.Proofs.Ytenjpldinnbcbaa
/- What a disk's methods do, whatever is asked. -/

namespace Go.Proofs.Ytenjpldinnbcbaa
open Go.RowKit
set_option linter.unusedVariables false
set_option linter.unusedSimpArgs false
set_option maxRecDepth 100000
set_option maxHeartbeats 1000000
namespace D
def readL (d : Dk) (at' : Int) : List Nat := if may d at' = 0 then look d at'.toNat else []
def wrote (d : Dk) (at' : Int) (x : List Nat) : Dk := if putI d at' x = 0 then write d at'.toNat x else d
def hurt (d : Dk) (at' : Int) (x : List Nat) : Dk := if putI d at' x = 0 then damage d at'.toNat x else d
def flushed (d : Dk) : Dk := if d.f then d else flush d
theorem may_zero {d : Dk} {at' : Int} (h : may d at' = 0) : d.f = false ∧ 0 ≤ at' ∧ at' < 52 := by
  unfold may at h
  by_cases hf : d.f = true
  · rw [if_pos hf] at h; omega
  · rw [if_neg hf] at h
    by_cases h2 : at' < 0 ∨ 52 ≤ at'
    · rw [if_pos h2] at h; omega
    · exact ⟨by simpa using hf, by omega, by omega⟩
theorem put_zero {d : Dk} {at' : Int} {x : List Nat} (h : putI d at' x = 0) : d.f = false ∧ 0 ≤ at' ∧ at' < 52 ∧ x.length = 32 := by
  unfold putI at h
  by_cases hm : may d at' ≠ 0
  · rw [if_pos hm] at h; exact absurd h hm
  · rw [if_neg hm] at h
    obtain ⟨h1, h2, h3⟩ := may_zero (Classical.byContradiction hm)
    by_cases hl : x.length ≠ 32
    · rw [if_pos hl] at h; omega
    · exact ⟨h1, h2, h3, Classical.byContradiction hl⟩
end D
theorem readA (w : World) (base g : Nat) (pv : Value) (d : D.Dk) (at' : Int) (h : IsDisk w base g pv d) :
    Calls Try.prog 65 #[.pointer (some ⟨g, 0, none⟩), .int .i64 at'] w fun e w' => ∃ v, e = .returned (.tuple #[v, .int .i64 (D.may d at')]) ∧ Own w' w.heap.size v (D.readL d at') ∧ Below w.heap.size w w' := by
  by_cases hm : D.may d at' = 0
  · obtain ⟨h1, h2, h3⟩ := D.may_zero hm
    unfold D.readL
    rw [if_pos hm, hm]
    exact readI w base g pv d at' h h1 h2 h3
  · unfold D.readL
    rw [if_neg hm]
    exact (read_no w base g pv d at' h hm).mono (by rintro e w' ⟨rfl, rfl⟩; exact ⟨_, rfl, Own.empty _ _, belR _⟩)
theorem writeA (w : World) (base g : Nat) (pv : Value) (d : D.Dk) (at' : Int) (bv : Value) (x : List Nat) (h : IsDisk w base g pv d) (hx : Byt w bv x) (hb0 : base ≤ w.heap.size) (hsz : (d.p.length + 1) * 40 ≤ 140737488355328) :
    Calls Try.prog 82 #[.pointer (some ⟨g, 0, none⟩), .int .i64 at', bv] w fun e w' => e = .returned (.int .i64 (putI d at' x)) ∧ ∃ pv', IsDisk w' base g pv' (D.wrote d at' x) ∧ Fr (ofD g pv) w w' ∧ (∀ b, pv'.ownBlock = some b → pv.ownBlock = some b ∨ w.heap.size ≤ b) := by
  by_cases hm : putI d at' x = 0
  · obtain ⟨h1, h2, h3, h4⟩ := D.put_zero hm
    unfold D.wrote
    rw [if_pos hm, hm]
    exact writeI w base g pv d at' bv x h hx h1 h2 h3 h4 hb0 hsz
  · unfold D.wrote
    rw [if_neg hm]
    exact (write_no w base g pv d at' bv x h hx hm).mono (by rintro e w' ⟨rfl, hb⟩; exact ⟨rfl, pv, h.up hb, Fr.of_below hb, fun b hb => .inl hb⟩)
theorem dmgA (w : World) (base g : Nat) (pv : Value) (d : D.Dk) (at' : Int) (bv : Value) (x : List Nat) (h : IsDisk w base g pv d) (hx : Byt w bv x) (hb0 : base ≤ w.heap.size) (hsz : d.p.length * 40 ≤ 140737488355328) :
    Calls Try.prog 84 #[.pointer (some ⟨g, 0, none⟩), .int .i64 at', bv] w fun e w' => e = .returned (.int .i64 (putI d at' x)) ∧ ∃ pv', IsDisk w' base g pv' (D.hurt d at' x) ∧ Fr (ofD g pv) w w' ∧ (∀ b, pv'.ownBlock = some b → pv.ownBlock = some b ∨ w.heap.size ≤ b) := by
  by_cases hm : putI d at' x = 0
  · obtain ⟨h1, h2, h3, h4⟩ := D.put_zero hm
    unfold D.hurt
    rw [if_pos hm, hm]
    obtain ⟨a, rfl⟩ := Int.eq_ofNat_of_zero_le h2
    exact (dmg_yes w base g pv d a bv x h hx h1 (by omega) h4 hb0 hsz).mono (by rintro e w' ⟨rfl, pv', h5, h6, h7⟩; exact ⟨rfl, pv', h5, h6.obj, fun b hb => .inr (h7 b hb)⟩)
  · unfold D.hurt
    rw [if_neg hm]
    exact (dmg_no w base g pv d at' bv x h hx hm).mono (by rintro e w' ⟨rfl, hb⟩; exact ⟨rfl, pv, h.up hb, Fr.of_below hb, fun b hb => .inl hb⟩)
theorem flushA (w : World) (base g : Nat) (pv : Value) (d : D.Dk) (h : IsDisk w base g pv d) :
    Calls Try.prog 96 #[.pointer (some ⟨g, 0, none⟩)] w fun e w' => e = .returned (.int .i64 (if d.f then 5 else 0)) ∧ ∃ pv', IsDisk w' base g pv' (D.flushed d) ∧ Fr (ofD g pv) w w' ∧ (∀ b, pv'.ownBlock = some b → pv.ownBlock = some b ∨ w.heap.size ≤ b) := by
  by_cases hf : d.f = true
  · unfold D.flushed
    rw [if_pos hf, if_pos hf]
    exact (flush_no w base g pv d h hf).mono (by rintro e w' ⟨rfl, rfl⟩; exact ⟨rfl, pv, h, Fr.refl _ _, fun b hb => .inl hb⟩)
  · unfold D.flushed
    rw [if_neg hf, if_neg hf]
    exact (flush_any w base g pv d h (by simpa using hf)).mono (by rintro e w' ⟨rfl, h1, h2⟩; exact ⟨rfl, .slice none 0 0, h1, h2.obj, fun b hb => by cases hb⟩)
end Go.Proofs.Ytenjpldinnbcbaa
