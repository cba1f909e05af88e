/- What a disk reads as behind writes, flushes, crashes: in plain terms. -/
import Derived.Test.YtggljcdkiaggeaaDiskI
namespace Go.Proofs.Ytggljcdkiaggeaa
open Go.RowKit
set_option linter.unusedVariables false
set_option linter.unusedSimpArgs false
namespace D
theorem look_write_same (d : Dk) (a : Nat) (x : List Nat) : look (write d a x) a = x := by
  unfold look write
  rw [List.foldl_append]
  simp
theorem look_write_other (d : Dk) {a b : Nat} (x : List Nat) (h : a ≠ b) : look (write d a x) b = look d b := by
  unfold look write
  rw [List.foldl_append]
  simp [h]
theorem apply_get (p : List (Nat × List Nat)) : ∀ (l : List (List Nat)) (a : Nat), a < l.length → (apply l p).getD a [] = p.foldl (fun b w => if w.1 = a then w.2 else b) (l.getD a []) := by
  induction p with
  | nil => intro l a _; rfl
  | cons w p ih =>
    intro l a ha
    unfold apply at ih ⊢
    rw [List.foldl_cons, List.foldl_cons, ih _ a (by simpa using ha)]
    congr 1
    by_cases h : w.1 = a
    · rw [if_pos h, h]
      simp [List.getD, ha]
    · rw [if_neg h]
      simp [List.getD, List.getElem?_set_ne h]
theorem look_flush {d : Dk} (h : Ok d) {a : Nat} (ha : a < 52) : look (flush d) a = look d a := by
  unfold look flush
  exact apply_get d.p d.l a (by rw [h.len]; exact ha)
theorem kept_snoc : ∀ (p : List (Nat × List Nat)) (ks : List Bool) (v : Nat × List Nat), kept (p ++ [v]) ks = kept p ks ++ (if ks[p.length]? = some true then [v] else [])
  | [], [], v => by simp [kept]
  | [], b :: ks, v => by cases b <;> simp [kept]
  | w :: p, [], v => by simp [kept]
  | w :: p, b :: ks, v => by
    rw [List.cons_append]
    unfold kept
    rw [kept_snoc p ks v]
    cases b <;> simp
theorem look_crash {d : Dk} (h : Ok d) (ks : List Bool) {a : Nat} (ha : a < 52) : look (crash d ks) a = (kept d.p ks).foldl (fun b w => if w.1 = a then w.2 else b) (d.l.getD a []) := by
  unfold look crash
  exact apply_get _ d.l a (by rw [h.len]; exact ha)
theorem look_crash_write {d : Dk} (h : Ok d) (ks : List Bool) {a : Nat} {x : List Nat} (ha : a < 52) (hx : x.length = 32) (h8 : ∀ y ∈ x, y < 256) :
    look (crash (write d a x) ks) a = if ks[d.p.length]? = some true then x else look (crash d ks) a := by
  rw [look_crash (write_ok h ha hx h8) ks ha, look_crash h ks ha]
  show (kept (d.p ++ [(a, x)]) ks).foldl _ (d.l.getD a []) = _
  rw [kept_snoc, List.foldl_append]
  split <;> simp
theorem crash_idle {d : Dk} (h : d.p = []) (ks : List Bool) (hp : d.p = []) : crash d ks = d := by
  unfold crash
  rw [h]
  obtain ⟨l, p, f⟩ := d
  simp at h
  subst h
  rfl
theorem crash_none (d : Dk) : crash d [] = { d with p := [] } := by
  unfold crash
  have : kept d.p [] = [] := by cases d.p <;> simp [kept]
  rw [this]
  rfl
end D
theorem Bools.lt {w : World} {v : Value} {l : List Bool} (h : Bools w v l) (hn : l ≠ []) : ∀ b, v.ownBlock = some b → b < w.heap.size := by
  intro b hb
  obtain ⟨ao, cap, rfl, h1, h2, h0, h4⟩ := h
  rcases h4 with h4 | ⟨b', off, rfl, hlt, _⟩
  · exact absurd (by simpa using h4) hn
  · cases hb
    exact hlt
theorem secL_ok (n : Int) : (secL n).length = 32 ∧ ∀ x ∈ secL n, x < 256 := ⟨secL_len n, secL_byte n⟩
/-- a value apart from a disk stays so behind a write -/
theorem apart_new {w : World} {g : Nat} {v pv pv' : Value} (hold : ∀ b, v.ownBlock = some b → ¬ ofD g pv b) (hlt : ∀ b, v.ownBlock = some b → b < w.heap.size) (p : ∀ b, pv'.ownBlock = some b → pv.ownBlock = some b ∨ w.heap.size ≤ b) : ∀ b, v.ownBlock = some b → ¬ ofD g pv' b := by
  intro b hb hof
  rcases hof with rfl | h
  · exact hold _ hb (.inl rfl)
  · rcases p b h with h1 | h1
    · exact hold b hb (.inr h1)
    · have := hlt b hb
      omega
/-- a value that was made behind a disk is apart from it -/
theorem apart_made {w w' : World} {base base' g : Nat} {pv v : Value} {d : D.Dk} {l : List Nat} (h : IsDisk w base g pv d) (ho : Own w' base' v l) (hb : w.heap.size ≤ base') : ∀ b, v.ownBlock = some b → ¬ ofD g pv b := fun b hv hof => by
  have h1 := h.lts b hof
  have h2 := ho.ge b hv
  omega
theorem apart_none {g : Nat} {v pv : Value} (h : ∀ b, v.ownBlock = some b → ¬ ofD g pv b) : ∀ b, v.ownBlock = some b → ¬ ofD g (.slice none 0 0) b := fun b hb hof => by
  rcases hof with rfl | hof
  · exact h _ hb (.inl rfl)
  · cases hof
theorem Fr.obj {g : Nat} {pv : Value} {w w' : World} (h : Fr (fun b => b = g) w w') : Fr (ofD g pv) w w' := h.mono (fun b hb => .inl hb)
theorem Fr.low {B g : Nat} {pv : Value} {a w w' : World} (h : Below B a w) (k : Fr (ofD g pv) w w') (hB : B ≤ w.heap.size) (hg : ∀ b, ofD g pv b → B ≤ b) : Below B a w' := Fr.below h k hB hg
end Go.Proofs.Ytggljcdkiaggeaa
