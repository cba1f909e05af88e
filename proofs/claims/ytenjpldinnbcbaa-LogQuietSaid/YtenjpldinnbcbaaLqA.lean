/- Plain law of LogQuiet. -/
import Derived.Test.YtenjpldinnbcbaaLaW
import Derived.Test.YtenjpldinnbcbaaDmB
import Derived.Test.YtenjpldinnbcbaaLive2
namespace Go.Proofs.Ytenjpldinnbcbaa
open Go.RowKit C
set_option linter.unusedVariables false
set_option linter.unusedSimpArgs false
set_option maxRecDepth 100000
set_option maxHeartbeats 1000000

/-- behind some damages: the rows of a bench of four disks -/
structure QI (xs : Nat → Int) (c : B.Bn) (j : Nat) : Prop where
  pw : B.Pw c
  len : c.ds.length = 4
  p : ∀ i, (B.at1 c i).p = []
  w : c.writes = 0
  f : ∀ d, B.failB c d = false
  sec : ∀ i, i < j → B.lookB c (i % 4) (36 + i / 4) = secL (xs i)
theorem fr_f (n i : Nat) : B.failB (B.fresh n) i = false := by unfold B.failB; rw [B.fresh_at]; rfl
theorem at1_fresh (n i : Nat) : B.at1 (B.fresh n) i = D.blank := B.fresh_at n i
theorem QI.zero (xs : Nat → Int) : QI xs (B.fresh 4) 0 where
  pw := (B.Up.fresh 4).pw
  len := B.fresh_len 4
  p := fun i => by rw [at1_fresh]; rfl
  w := rfl
  f := fun d => fr_f 4 d
  sec := fun i hi => by omega
theorem QI.dmg {xs : Nat → Int} {c : B.Bn} {j : Nat} (h : QI xs c j) (hj : j < 64) : QI xs (B.dmgB c (j % 4) (36 + j / 4) (secL (xs j))) (j + 1) := by
  have hl := h.len
  obtain ⟨u1, w1, l1, f1, k1, p1⟩ := B.dmg_spec h.pw (i := j % 4) (a := 36 + j / 4) (by rw [hl]; omega) (by omega) (secL_len (xs j)) (secL_byte (xs j))
  refine ⟨u1, l1.trans hl, fun i => ?_, w1.trans h.w, fun d => (f1 d).trans (h.f d), fun i hi => ?_⟩
  · have := p1 i
    rw [h.p i] at this
    exact List.eq_nil_of_length_eq_zero (by simpa using this)
  · rw [k1]
    by_cases hij : i = j
    · subst hij; rw [if_pos ⟨rfl, h.f _, rfl⟩]
    · rw [if_neg (fun e => by omega)]; exact h.sec i (by omega)
theorem QI.small {xs : Nat → Int} {c : B.Bn} {j : Nat} (h : QI xs c j) : ∀ d ∈ c.ds, d.p.length ≤ 1000000 := fun d hd => by
  obtain ⟨i, hi, rfl⟩ := List.getElem_of_mem hd
  rw [← B.at1_eq hi, h.p i]; exact Nat.zero_le _
/-- what the law wants at a place -/
def wantS (lvs : List Bool) (i : Nat) (z : List Nat) (x : RI) : List Nat := if x.d = ((i % 4 : Nat) : Int) ∧ x.a = ((36 + i / 4 : Nat) : Int) ∧ B.live1 lvs (i % 4) = true then x.b else z
theorem want_lk {c : B.Bn} (hf : ∀ d, B.failB c d = false) (lvs : List Bool) {i : Nat} : ∀ {l : List RI} {z : List Nat}, (∀ x ∈ l, x.fine = true) → l.foldl (B.lkS 4 lvs c (i % 4) (36 + i / 4)) z = l.foldl (wantS lvs i) z := by
  intro l
  induction l with
  | nil => intro z _; rfl
  | cons x l ih =>
    intro z h
    rw [List.foldl_cons, List.foldl_cons, ih (fun y hy => h y (List.mem_cons_of_mem _ hy))]
    congr 1
    have hx := (RI.fine_iff x).1 (h x (List.mem_cons_self ..))
    unfold B.lkS wantS
    by_cases hd : x.d = ((i % 4 : Nat) : Int) ∧ x.a = ((36 + i / 4 : Nat) : Int) ∧ B.live1 lvs (i % 4) = true
    · rw [if_pos hd]
      have e : x.d.toNat = i % 4 := by omega
      refine if_pos ⟨?_, e, by omega, hf _⟩
      unfold B.tak
      rw [e, hd.2.2, decide_eq_true (by omega)]; rfl
    · rw [if_neg hd]
      refine if_neg (fun ⟨h1, h2, h3, _⟩ => hd ⟨by omega, by omega, ?_⟩)
      rw [← h2]; exact (B.tak_lt h1 hx.1.1).2
theorem QI.apply {xs : Nat → Int} {c : B.Bn} (h : QI xs c 64) (lvs : List Bool) {l : List RI} (hf : ∀ x ∈ l, x.fine = true) (hb : ∀ x ∈ l, ∀ y ∈ x.b, y < 256) (h3 : l.length ≤ 3) :
    B.Pw (B.applyB c lvs l) ∧ (B.applyB c lvs l).ds.length = 4 ∧ B.pending (B.applyB c lvs l) = 0 ∧ (∀ d, B.failB (B.applyB c lvs l) d = false) ∧ ∀ i, i < 64 → B.lookB (B.applyB c lvs l) (i % 4) (36 + i / 4) = l.foldl (wantS lvs i) (secL (xs i)) := by
  have hl := h.len
  obtain ⟨u, e1, _, _, f1, p1, k1⟩ := B.apply_spec h.pw lvs hf hb
  rw [hl] at e1 k1
  refine ⟨u, e1, ?_, fun d => (f1 d).trans (h.f d), fun i hi => ?_⟩
  · unfold B.pending
    have : (B.applyB c lvs l).ds.map (fun d => d.p.length) = (B.applyB c lvs l).ds.map (fun _ => 0) := by
      refine List.map_congr_left (fun d hd => ?_)
      obtain ⟨i, hi, rfl⟩ := List.getElem_of_mem hd
      rw [← B.at1_eq hi, p1 i (h.p i)]; rfl
    rw [this, List.map_const', List.sum_replicate_nat, Nat.mul_zero]
  · rw [k1 _ _ (by omega) (by omega), want_lk h.f lvs hf, h.sec i hi]
end Go.Proofs.Ytenjpldinnbcbaa
