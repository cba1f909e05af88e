/- The plain laws of a row that has lost as many sectors as may be, and one more. -/
import Derived.Test.YtknodcaknopcnaaRwM
import Derived.Test.YtknodcaknopcnaaRwZ
namespace Go.Proofs.Ytknodcaknopcnaa.Y
open G
set_option linter.unusedVariables false

theorem lost_right {l d c r : Nat} {data rows : List (List Nat)} (hok : okN l d c) (hw : data.length = d - (l - 4)) (h32 : ∀ p ∈ data, p.length = 32) (h8 : ∀ p ∈ data, ∀ x ∈ p, x < 256) (h : Lost d (fillL l d c r data) rows)
    (M : List Nat) (hM : ∀ i, i < d → rows.getD i [] = [] → i ∈ M) (hMl : M.length ≤ l - 4) {i : Nat} (hi : i < d) (hz : rows.getD i [] = []) : rightB l d c r rows = false := by
  obtain ⟨e1, e2⟩ := take_back hok hw h32 h8 h M hM hMl
  unfold rightB
  rw [e1, e2, Bool.true_and]
  exact decide_eq_false fun e => fill_ne hok hw h32 (r := r) hi (by rw [e]; exact hz)
def thereN (l d c r : Nat) (rows : List (List Nat)) : Nat := (if pOf d c r rows = [] then 0 else 1) + (if qOf l d c r rows = [] then 0 else 1)
theorem lost_fits {l d c r : Nat} {data rows : List (List Nat)} (hok : okN l d c) (hw : data.length = d - (l - 4)) (h32 : ∀ p ∈ data, p.length = 32) (h : Lost d (fillL l d c r data) rows) :
    solveB ((32 : Nat) : Int) (pOf d c r rows) (qOf l d c r rows) (takeL l d c r rows) = decide ((missL (takeL l d c r rows)).length ≤ thereN l d c r rows) := by
  have hok' := hok
  obtain ⟨h1, h2, h3⟩ := hok'
  have hs := lost_take hok hw h
  have hfit : fitsB ((32 : Nat) : Int) (takeL l d c r rows) = true := by
    unfold fitsB
    rw [List.all_eq_true]
    intro x hx
    rw [decide_eq_true_iff]
    obtain ⟨i, hi, rfl⟩ := List.getElem_of_mem hx
    rcases hs.2 i (by rw [← hs.1]; exact hi) with e | e
    · left; rw [show (takeL l d c r rows)[i] = (takeL l d c r rows).getD i [] by simp [List.getD, hi], e]; rfl
    · right; rw [show (takeL l d c r rows)[i] = (takeL l d c r rows).getD i [] by simp [List.getD, hi], e, getD_len h32 (by rw [← hs.1]; exact hi)]
  have hp : (pOf d c r rows).length = 0 ∨ (pOf d c r rows).length = 32 := by
    rcases lost_p hok hw h with e | e
    · right; rw [e]; exact P_len h32 (by omega)
    · left; rw [e]; rfl
  have hq : (qOf l d c r rows).length = 0 ∨ (qOf l d c r rows).length = 32 := by
    rcases lost_q hok hw h with e | e
    · right; rw [e]; exact Q_len h32 (by omega)
    · left; rw [e]; rfl
  have hfit2 : fitsB ((32 : Nat) : Int) [pOf d c r rows, qOf l d c r rows] = true := by
    unfold fitsB
    simp only [List.all_cons, List.all_nil, Bool.and_true, Bool.and_eq_true, decide_eq_true_iff]
    omega
  unfold solveB thereN
  rw [hfit, hfit2, miss2_len, decide_eq_true (show 1 ≤ ((32 : Nat) : Int) ∧ 1 ≤ (takeL l d c r rows).length ∧ (takeL l d c r rows).length ≤ 8 by rw [takeL_len]; omega), Bool.true_and, Bool.true_and, Bool.true_and, decide_eq_decide]
  split <;> split <;> omega
/-- of the first k disks: how many data sectors are missing -/
def leftA (rows : List (List Nat)) (p q : Int) (k : Nat) : Nat := ((List.range k).filter (fun i : Nat => decide (rows.getD i [] = [] ∧ (i : Int) ≠ p ∧ (i : Int) ≠ q))).length
theorem leftA_yes {rows : List (List Nat)} {p q : Int} {k : Nat} (h : rows.getD k [] = [] ∧ (k : Int) ≠ p ∧ (k : Int) ≠ q) : leftA rows p q (k + 1) = leftA rows p q k + 1 := by
  unfold leftA
  rw [List.range_succ, List.filter_append, List.length_append, List.filter_cons_of_pos (by rw [decide_eq_true_iff]; exact h)]
  rfl
theorem leftA_no {rows : List (List Nat)} {p q : Int} {k : Nat} (h : ¬ (rows.getD k [] = [] ∧ (k : Int) ≠ p ∧ (k : Int) ≠ q)) : leftA rows p q (k + 1) = leftA rows p q k := by
  unfold leftA
  rw [List.range_succ, List.filter_append, List.length_append, List.filter_cons_of_neg (by rw [decide_eq_true_iff]; exact h)]
  rfl
theorem leftA_le (rows : List (List Nat)) (p q : Int) (k : Nat) : leftA rows p q k ≤ k := by
  unfold leftA
  exact Nat.le_trans (List.length_filter_le _ _) (by simp)
theorem left_end {l d c r : Nat} {rows : List (List Nat)} {p q : Int} (hok : okN l d c) (hd : rows.length = d) (hp : p = ((off d c r 0 : Nat) : Int)) (hq : ∀ i : Nat, i < d → ((i : Int) = q ↔ (l = 6 ∧ i = off d c r 1))) :
    leftA rows p q d = (missL (takeL l d c r rows)).length := by
  have hok' := hok
  obtain ⟨h1, h2, h3⟩ := hok'
  have e : (missL (takeL l d c r rows)).length = ((missL (takeL l d c r rows)).map (fun k => off d c r (l - 4 + k))).length := by rw [List.length_map]
  rw [e]
  unfold leftA
  have hmem : ∀ k ∈ missL (takeL l d c r rows), k < d - (l - 4) ∧ rows.getD (off d c r (l - 4 + k)) [] = [] := by
    intro k hk
    obtain ⟨h4, h5⟩ := miss_mem.1 hk
    rw [takeL_len] at h4
    rw [takeL_get h4] at h5
    exact ⟨h4, h5⟩
  have hn : ((missL (takeL l d c r rows)).map (fun k => off d c r (l - 4 + k))).Nodup := by
    have := miss_nodup (takeL l d c r rows)
    rw [List.nodup_iff_pairwise_ne] at *
    rw [List.pairwise_map]
    refine this.imp_of_mem fun ha hb hne e => hne ?_
    have := off_inj (c := c) (r := r) (show l - 4 + _ < d by have := (hmem _ ha).1; omega) (show l - 4 + _ < d by have := (hmem _ hb).1; omega) e
    omega
  refine List.Perm.length_eq ((List.perm_ext_iff_of_nodup (List.nodup_range.filter _) hn).2 fun i => ?_)
  rw [List.mem_filter, List.mem_range, decide_eq_true_iff, List.mem_map]
  constructor
  · rintro ⟨hi, hz, hip, hiq⟩
    obtain ⟨j, hj, rfl⟩ := off_onto (c := c) (r := r) hi
    have j0 : j ≠ 0 := fun e => hip (by rw [hp, e])
    have j1 : ¬ (l = 6 ∧ j = 1) := fun e => hiq ((hq _ hi).2 ⟨e.1, by rw [e.2]⟩)
    refine ⟨j - (l - 4), miss_mem.2 ⟨by rw [takeL_len]; omega, ?_⟩, by rw [show l - 4 + (j - (l - 4)) = j by omega]⟩
    rw [takeL_get (by omega), show l - 4 + (j - (l - 4)) = j by omega]
    exact hz
  · rintro ⟨k, hk, rfl⟩
    obtain ⟨h4, h5⟩ := hmem k hk
    have ho := off_lt (d := d) (c := c) (r := r) (j := l - 4 + k) (by omega)
    refine ⟨ho, h5, fun e => ?_, fun e => ?_⟩
    · rw [hp] at e
      have := off_inj (c := c) (r := r) (show l - 4 + k < d by omega) (show 0 < d by omega) (by omega)
      omega
    · have := (hq _ ho).1 e
      have := off_inj (c := c) (r := r) (show l - 4 + k < d by omega) (show 1 < d by omega) this.2
      omega
end Go.Proofs.Ytknodcaknopcnaa.Y
