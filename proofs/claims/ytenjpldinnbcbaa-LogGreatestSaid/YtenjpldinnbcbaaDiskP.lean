/- A disk: what it has in plain terms, and how that lies in memory. Over any program. -/
import Derived.Test.YtenjpldinnbcbaaRowOwn
import Derived.Deep.MidRow
namespace Go.Proofs.Ytenjpldinnbcbaa
open Go.RowKit
set_option linter.unusedVariables false
set_option linter.unusedSimpArgs false
namespace D
/-- what stays, what is pending, has it failed -/
structure Dk where
  l : List (List Nat)
  p : List (Nat × List Nat)
  f : Bool
def blank : Dk := ⟨List.replicate 52 (List.replicate 32 0), [], false⟩
/-- well formed -/
structure Ok (d : Dk) : Prop where
  len : d.l.length = 52
  sec : ∀ s ∈ d.l, s.length = 32
  byt : ∀ s ∈ d.l, ∀ x ∈ s, x < 256
  pat : ∀ w ∈ d.p, w.1 < 52
  psec : ∀ w ∈ d.p, w.2.length = 32
  pbyt : ∀ w ∈ d.p, ∀ x ∈ w.2, x < 256
def may (d : Dk) (at' : Int) : Int := if d.f then 5 else if at' < 0 ∨ 52 ≤ at' then 4 else 0
/-- the last of what is pending at a place, or what stays -/
def look (d : Dk) (a : Nat) : List Nat := d.p.foldl (fun b w => if w.1 = a then w.2 else b) (d.l.getD a [])
def apply (l : List (List Nat)) (p : List (Nat × List Nat)) : List (List Nat) := p.foldl (fun l w => l.set w.1 w.2) l
def write (d : Dk) (a : Nat) (x : List Nat) : Dk := { d with p := d.p ++ [(a, x)] }
def flush (d : Dk) : Dk := { d with l := apply d.l d.p, p := [] }
/-- those of what is pending that are kept -/
def kept : List (Nat × List Nat) → List Bool → List (Nat × List Nat)
  | [], _ => []
  | _, [] => []
  | w :: p, k :: ks => if k then w :: kept p ks else kept p ks
def crash (d : Dk) (ks : List Bool) : Dk := { d with l := apply d.l (kept d.p ks), p := [] }
def fail : Dk := { blank with f := true }
def damage (d : Dk) (a : Nat) (x : List Nat) : Dk := { d with l := d.l.set a x, p := d.p.filter (fun w => w.1 ≠ a) }

theorem flat_split {l : List (List Nat)} {n a : Nat} (hl : ∀ s ∈ l, s.length = n) (ha : a < l.length) :
    ∃ A C, A.length = n * a ∧ l.flatten = A ++ (l[a] ++ C) ∧ ∀ x, (l.set a x).flatten = A ++ (x ++ C) := by
  refine ⟨(l.take a).flatten, (l.drop (a + 1)).flatten, ?_, ?_, fun x => ?_⟩
  · rw [List.length_flatten]
    have : (l.take a).map List.length = List.replicate a n := by
      apply List.ext_getElem?
      intro i
      rcases Nat.lt_or_ge i a with hi | hi
      · have e : (l.take a)[i]? = some l[i] := by rw [List.getElem?_take_of_lt hi, List.getElem?_eq_getElem]
        rw [List.getElem?_map, e]
        simp [hi, hl l[i] (List.getElem_mem _)]
      · rw [List.getElem?_eq_none (by simp; omega), List.getElem?_eq_none (by simp; omega)]
    rw [this, List.sum_replicate_nat, Nat.mul_comm]
  · have e : l = l.take a ++ l[a] :: l.drop (a + 1) := by rw [List.getElem_cons_drop, List.take_append_drop]
    have e2 := congrArg List.flatten e
    rw [List.flatten_append, List.flatten_cons] at e2
    exact e2
  · rw [List.set_eq_take_append_cons_drop, if_pos ha]
    simp
theorem blank_ok : Ok blank := by
  refine ⟨by simp [blank], ?_, ?_, ?_, ?_, ?_⟩
  · intro s hs; rw [List.eq_of_mem_replicate hs]; simp
  · intro s hs x hx; rw [List.eq_of_mem_replicate hs] at hx; rw [List.eq_of_mem_replicate hx]; decide
  · intro w hw; cases hw
  · intro w hw; cases hw
  · intro w hw; cases hw
theorem set_ok {d : Dk} (h : Ok d) {a : Nat} {x : List Nat} (hx : x.length = 32) (h8 : ∀ y ∈ x, y < 256) : Ok { d with l := d.l.set a x } := by
  refine ⟨by simp [h.len], ?_, ?_, h.pat, h.psec, h.pbyt⟩
  · intro s hs
    rcases List.mem_or_eq_of_mem_set hs with h1 | h1
    · exact h.sec s h1
    · rw [h1]; exact hx
  · intro s hs
    rcases List.mem_or_eq_of_mem_set hs with h1 | h1
    · exact h.byt s h1
    · rw [h1]; exact h8
theorem write_ok {d : Dk} (h : Ok d) {a : Nat} {x : List Nat} (ha : a < 52) (hx : x.length = 32) (h8 : ∀ y ∈ x, y < 256) : Ok (write d a x) := by
  refine ⟨h.len, h.sec, h.byt, ?_, ?_, ?_⟩
  all_goals
    intro w hw
    rcases List.mem_append.1 hw with h1 | h1
  · exact h.pat w h1
  · rw [List.mem_singleton.1 h1]; exact ha
  · exact h.psec w h1
  · rw [List.mem_singleton.1 h1]; exact hx
  · exact h.pbyt w h1
  · rw [List.mem_singleton.1 h1]; exact h8
theorem apply_ok (p : List (Nat × List Nat)) : ∀ {l : List (List Nat)}, l.length = 52 → (∀ s ∈ l, s.length = 32) → (∀ s ∈ l, ∀ x ∈ s, x < 256) → (∀ w ∈ p, w.2.length = 32) → (∀ w ∈ p, ∀ x ∈ w.2, x < 256) →
    (apply l p).length = 52 ∧ (∀ s ∈ apply l p, s.length = 32) ∧ ∀ s ∈ apply l p, ∀ x ∈ s, x < 256 := by
  induction p with
  | nil => intro l h1 h2 h3 _ _; exact ⟨h1, h2, h3⟩
  | cons w p ih =>
    intro l h1 h2 h3 h4 h5
    refine ih (l := l.set w.1 w.2) (by simp [h1]) ?_ ?_ (fun v hv => h4 v (.tail _ hv)) (fun v hv => h5 v (.tail _ hv))
    · intro s hs
      rcases List.mem_or_eq_of_mem_set hs with h | h
      · exact h2 s h
      · rw [h]; exact h4 w (.head _)
    · intro s hs
      rcases List.mem_or_eq_of_mem_set hs with h | h
      · exact h3 s h
      · rw [h]; exact h5 w (.head _)
theorem flush_ok {d : Dk} (h : Ok d) : Ok (flush d) := by
  obtain ⟨h1, h2, h3⟩ := apply_ok d.p h.len h.sec h.byt h.psec h.pbyt
  exact ⟨h1, h2, h3, (fun w hw => by cases hw), (fun w hw => by cases hw), (fun w hw => by cases hw)⟩
theorem kept_mem : ∀ (p : List (Nat × List Nat)) (ks : List Bool), ∀ w ∈ kept p ks, w ∈ p
  | [], _, w, h => by simp [kept] at h
  | _ :: _, [], w, h => by simp [kept] at h
  | v :: p, k :: ks, w, h => by
    unfold kept at h
    split at h
    · cases h with
      | head => exact .head _
      | tail _ h => exact .tail _ (kept_mem p ks w h)
    · exact .tail _ (kept_mem p ks w h)
theorem crash_ok {d : Dk} (h : Ok d) (ks : List Bool) : Ok (crash d ks) := by
  obtain ⟨h1, h2, h3⟩ := apply_ok (kept d.p ks) h.len h.sec h.byt (fun w hw => h.psec w (kept_mem _ _ w hw)) (fun w hw => h.pbyt w (kept_mem _ _ w hw))
  exact ⟨h1, h2, h3, (fun w hw => by cases hw), (fun w hw => by cases hw), (fun w hw => by cases hw)⟩
theorem fail_ok : Ok fail := ⟨blank_ok.len, blank_ok.sec, blank_ok.byt, (fun w hw => by cases hw), (fun w hw => by cases hw), (fun w hw => by cases hw)⟩
theorem damage_ok {d : Dk} (h : Ok d) {a : Nat} {x : List Nat} (hx : x.length = 32) (h8 : ∀ y ∈ x, y < 256) : Ok (damage d a x) := by
  have h1 := set_ok (a := a) h hx h8
  exact ⟨h1.len, h1.sec, h1.byt, fun w hw => h.pat w (List.mem_filter.1 hw).1, fun w hw => h.psec w (List.mem_filter.1 hw).1, fun w hw => h.pbyt w (List.mem_filter.1 hw).1⟩
theorem look_ok {d : Dk} (h : Ok d) {a : Nat} (ha : a < 52) : (look d a).length = 32 ∧ ∀ x ∈ look d a, x < 256 := by
  have key : ∀ (p : List (Nat × List Nat)) (b : List Nat), (∀ w ∈ p, w.2.length = 32) → (∀ w ∈ p, ∀ x ∈ w.2, x < 256) → b.length = 32 → (∀ x ∈ b, x < 256) →
      (p.foldl (fun b w => if w.1 = a then w.2 else b) b).length = 32 ∧ ∀ x ∈ p.foldl (fun b w => if w.1 = a then w.2 else b) b, x < 256 := by
    intro p
    induction p with
    | nil => intro b _ _ h3 h4; exact ⟨h3, h4⟩
    | cons w p ih =>
      intro b h1 h2 h3 h4
      refine ih _ (fun v hv => h1 v (.tail _ hv)) (fun v hv => h2 v (.tail _ hv)) ?_ ?_
      · show (if w.1 = a then w.2 else b).length = 32
        split
        · exact h1 w (.head _)
        · exact h3
      · show ∀ x ∈ (if w.1 = a then w.2 else b), x < 256
        split
        · exact h2 w (.head _)
        · exact h4
  have hlt : a < d.l.length := by rw [h.len]; exact ha
  have e : d.l.getD a [] = d.l[a] := by simp [List.getD, hlt]
  unfold look
  rw [e]
  exact key d.p _ h.psec h.pbyt (h.sec _ (List.getElem_mem hlt)) (h.byt _ (List.getElem_mem hlt))
end D
/-- the cells of a disk's object -/
def dcells (d : D.Dk) (pv : Value) : List Value := d.l.flatten.map u8v ++ [pv, .bool d.f]
def wcells (w : Nat × List Nat) : List Value := .int .i64 (w.1 : Int) :: w.2.map u8v
def pcells (p : List (Nat × List Nat)) : List Value := p.flatMap wcells
theorem range_upd {w : World} {g : Nat} {A B B' C : List Value} (h : w.rangeAt g 0 (A ++ (B ++ C))) (hb : B'.length = B.length) (ht : w.there g A.length B'.length) : (w.setCells g A.length B').rangeAt g 0 (A ++ (B' ++ C)) := by
  have hA : w.rangeAt g 0 A := fun j v hv => h j v (by rw [List.getElem?_append_left (List.getElem?_eq_some_iff.1 hv).1]; exact hv)
  have hC : w.rangeAt g (A.length + B.length) C := fun j v hv => by
    have := h (A.length + (B.length + j)) v (by rw [List.getElem?_append_right (by omega), Nat.add_sub_cancel_left, List.getElem?_append_right (by omega), Nat.add_sub_cancel_left]; exact hv)
    rw [Nat.zero_add, ← Nat.add_assoc] at this
    exact this
  have h1 := World.rangeAt_setCells_apart hA g A.length B' (.inr (.inl (by omega)))
  have h2 := World.rangeAt_setCells_same w g A.length B' ht
  have h3 := World.rangeAt_setCells_apart hC g A.length B' (.inr (.inr (by omega)))
  intro j v hv
  rcases Nat.lt_or_ge j A.length with hj | hj
  · rw [List.getElem?_append_left hj] at hv
    exact h1 j v hv
  · rw [List.getElem?_append_right hj] at hv
    rcases Nat.lt_or_ge (j - A.length) B'.length with hj2 | hj2
    · rw [List.getElem?_append_left hj2] at hv
      have := h2 (j - A.length) v hv
      rwa [show A.length + (j - A.length) = 0 + j by omega] at this
    · rw [List.getElem?_append_right hj2] at hv
      have := h3 (j - A.length - B'.length) v hv
      rwa [show A.length + B.length + (j - A.length - B'.length) = 0 + j by omega] at this
theorem range_mid {w : World} {g : Nat} {A B C : List Value} (h : w.rangeAt g 0 (A ++ (B ++ C))) : w.rangeAt g A.length B := fun j v hv => by
  have hj := (List.getElem?_eq_some_iff.1 hv).1
  have := h (A.length + j) v (by rw [List.getElem?_append_right (by omega), Nat.add_sub_cancel_left, List.getElem?_append_left hj]; exact hv)
  rwa [Nat.zero_add] at this
end Go.Proofs.Ytenjpldinnbcbaa
