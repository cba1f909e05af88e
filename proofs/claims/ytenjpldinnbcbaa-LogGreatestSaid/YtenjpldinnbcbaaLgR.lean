/- Plain law of LogGreatest; what stands behind a log.Put. -/
import Derived.Test.YtenjpldinnbcbaaLgK
namespace Go.Proofs.Ytenjpldinnbcbaa
open Go.RowKit C
set_option linter.unusedVariables false
set_option linter.unusedSimpArgs false
set_option maxRecDepth 100000
set_option maxHeartbeats 1000000

namespace B
/-- the rows of a disk behind a Put -/
theorem rows4_put {c : Bn} (h : Pw c) (lv : List Bool) {s : Int} {l : List RI} (hk : rok s l = true) (hb : ∀ x ∈ l, ∀ y ∈ x.b, y < 256) {d : Nat} (hd : d < c.ds.length) (hf : failB c d = false) :
    rows4 (putR c lv (renc s l)) d 4 = if live1 lv d = true then renc s l else rows4 c d 4 := by
  obtain ⟨_, hn3, _⟩ := (rok_iff s l).1 hk
  have h4 := renc_len (s := s) hn3
  obtain ⟨_, _, _, _, f4, f5, _⟩ := putR_spec h lv (all := renc s l) (renc_32 hn3 (rok_fine hk)) (renc_byte hb) h4
  have e : ∀ i, i < 4 → rd (putR c lv (renc s l)) d i = if live1 lv d = true then (renc s l).getD i [] else rd c d i := fun i hi => by
    have e1 := f4 d hd
    have e2 := f5 d hd (2 + i) (by omega)
    rw [hf] at e1 e2
    have e3 : rd (putR c lv (renc s l)) d i = lookB (putR c lv (renc s l)) d (2 + i) := by unfold rd; rw [e1]; rfl
    have e4 : rd c d i = lookB c d (2 + i) := by unfold rd; rw [hf]; rfl
    rw [e3, e4]
    by_cases hv : live1 lv d = true
    · rw [if_pos ⟨hv, rfl, by omega, by omega⟩] at e2
      rw [e2, if_pos hv]
      congr 1; omega
    · rw [if_neg (fun h => hv h.1)] at e2
      rw [e2, if_neg hv]
  show [rd _ d 0, rd _ d 1, rd _ d 2, rd _ d 3] = _
  rw [e 0 (by decide), e 1 (by decide), e 2 (by decide), e 3 (by decide)]
  by_cases hv : live1 lv d = true
  · rw [if_pos hv, if_pos hv, if_pos hv, if_pos hv, if_pos hv]
    match renc s l, h4 with
    | [a, b, c, d], _ => rfl
  · rw [if_neg hv, if_neg hv, if_neg hv, if_neg hv, if_neg hv]; rfl
end B
/-- the mark of a disk -/
def itemG (d : Nat) : RI := ⟨(d : Int), 36, List.replicate 32 0⟩
theorem itemG_ok {s : Nat} (h1 : 1 ≤ s) (h2 : s ≤ 100) {d : Nat} (hd : d < 3) : rok (s : Int) [itemG d] = true := by
  rw [rok_iff]
  refine ⟨by omega, (show 1 ≤ 3 by decide), ?_⟩
  have : d = 0 ∨ d = 1 ∨ d = 2 := by omega
  rcases this with rfl | rfl | rfl <;> rfl
theorem itemG_byte (d : Nat) : ∀ x ∈ [itemG d], ∀ y ∈ x.b, y < 256 := by
  intro x hx y hy
  have : x = itemG d := by simpa using hx
  subst this
  rw [List.eq_of_mem_replicate hy]; decide
def lvG (j : Nat) : List Bool := [decide (j = 0), decide (j = 1), decide (j = 2)]
theorem lvG_live {j d : Nat} (hd : d < 3) : B.live1 (lvG j) d = decide (j = d) := by
  have : d = 0 ∨ d = 1 ∨ d = 2 := by omega
  rcases this with rfl | rfl | rfl <;> rfl
/-- behind some rounds -/
structure GI (S : Nat → Nat) (c : B.Bn) (j : Nat) : Prop where
  pw : B.Pw c
  len : c.ds.length = 3
  p : ∀ d ∈ c.ds, d.p.length ≤ 1000000
  w : 0 ≤ c.writes ∧ c.writes ≤ 100 * (j : Int)
  f : ∀ d, d < 3 → B.failB c d = false
  rows : ∀ d, d < 3 → if d < j then B.rows4 c d 4 = renc (S d) [itemG d] else ris (B.rows4 c d 4) = false
theorem GI.zero (S : Nat → Nat) : GI S (B.fresh 3) 0 where
  pw := (B.Up.fresh 3).pw
  len := B.fresh_len 3
  p := B.fresh_p 3
  w := ⟨Int.le_refl _, Int.le_refl _⟩
  f := fun d _ => by unfold B.failB; rw [B.fresh_at]; rfl
  rows := fun d _ => by rw [if_neg (by omega)]; exact B.rows4_zeros (B.fresh_look 3 d 2 (by decide))
theorem GI.step {S : Nat → Nat} {c : B.Bn} {j : Nat} (h : GI S c j) (hj : j < 3) (hS : 1 ≤ S j ∧ S j ≤ 100) : GI S (B.putR c (lvG j) (renc (S j) [itemG j])) (j + 1) := by
  have hk := itemG_ok hS.1 hS.2 hj
  have hl := h.len
  obtain ⟨_, hn3, _⟩ := (rok_iff _ _).1 hk
  obtain ⟨u1, w1, w2, l1, f1, k1, p1⟩ := B.putR_spec h.pw (lvG j) (all := renc (S j) [itemG j]) (renc_32 hn3 (rok_fine hk)) (renc_byte (itemG_byte j)) (renc_len hn3)
  have hw := h.w
  refine ⟨u1, l1.trans hl, fun d hd => ?_, by rw [hl] at w2; omega, fun d hd => by rw [f1 d (by rw [hl]; exact hd)]; exact h.f d hd, fun d hd => ?_⟩
  · obtain ⟨i, hi, rfl⟩ := List.getElem_of_mem hd
    have hi3 : i < c.ds.length := by rw [← l1]; exact hi
    have := p1 i hi3
    rw [B.at1_eq hi, B.at1_eq hi3] at this
    have := h.p _ (List.getElem_mem hi3)
    omega
  · rw [B.rows4_put h.pw (lvG j) hk (itemG_byte j) (by rw [hl]; exact hd) (h.f d hd), lvG_live hd]
    by_cases hjd : j = d
    · subst hjd
      rw [if_pos (by omega), if_pos (decide_eq_true rfl)]
    · have hr := h.rows d hd
      by_cases hdj : d < j
      · rw [if_pos (by omega), if_neg (by simpa using hjd)]; rw [if_pos hdj] at hr; exact hr
      · rw [if_neg (by omega), if_neg (by simpa using hjd)]; rw [if_neg hdj] at hr; exact hr
/-- the law's own choice -/
def gtG (S : Nat → Nat) (d : Nat) : Option Nat → Bool
  | none => true
  | some e => decide (S e < S d)
def stG (lv : List Bool) (S : Nat → Nat) (b : Option Nat) (d : Nat) : Option Nat :=
  if B.live1 lv d = true ∧ gtG S d b = true then some d else b
def bestG (lv : List Bool) (S : Nat → Nat) : Nat → Option Nat
  | 0 => none
  | n + 1 => stG lv S (bestG lv S n) n
def recG (S : Nat → Nat) : Option Nat → Int × List RI
  | none => (0, [])
  | some d => ((S d : Int), [itemG d])
theorem GI.best {S : Nat → Nat} {c : B.Bn} (h : GI S c 3) (hS : ∀ d, d < 3 → 1 ≤ S d ∧ S d ≤ 100) (lv : List Bool) : ∀ n, n ≤ 3 → B.bestR c (onL lv n) = recG S (bestG lv S n) := by
  intro n
  induction n with
  | zero => intro _; rfl
  | succ n ih =>
    intro hn
    have hi := ih (by omega)
    have hr := h.rows n (by omega)
    rw [if_pos (by omega)] at hr
    have hk := itemG_ok (hS n (by omega)).1 (hS n (by omega)).2 (show n < 3 by omega)
    by_cases hl : B.live1 lv n = true
    · have e : B.bestR c (onL lv (n + 1)) = B.stR c (B.bestR c (onL lv n)) n := by unfold B.bestR; rw [onL_yes hl, List.foldl_append]; rfl
      rw [e, hi]
      unfold B.stR
      rw [hr, ris_enc hk, rnum_enc hk, rlist_enc hk]
      show _ = recG S (stG lv S (bestG lv S n) n)
      unfold stG
      cases hb : bestG lv S n with
      | none =>
        rw [if_pos ⟨rfl, by show (0 : Int) < _; have := (hS n (by omega)).1; omega⟩, if_pos ⟨hl, rfl⟩]; rfl
      | some e =>
        by_cases hlt : S e < S n
        · rw [if_pos ⟨rfl, by show ((S e : Nat) : Int) < _; omega⟩, if_pos ⟨hl, decide_eq_true hlt⟩]; rfl
        · rw [if_neg (fun h => hlt (by have h2 : ((S e : Nat) : Int) < ((S n : Nat) : Int) := h.2; omega)), if_neg (fun h => hlt (of_decide_eq_true h.2))]
    · rw [onL_no (by simpa using hl), hi]
      show _ = recG S (stG lv S (bestG lv S n) n)
      unfold stG
      rw [if_neg (fun h => hl h.1)]
end Go.Proofs.Ytenjpldinnbcbaa
