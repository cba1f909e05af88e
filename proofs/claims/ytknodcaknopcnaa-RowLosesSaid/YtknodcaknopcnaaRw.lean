/- The plain law of a row: where each sector stands; a row filled, taken, right. -/
import Derived.Test.YtknodcaknopcnaaEra
namespace Go.Proofs.Ytknodcaknopcnaa.Y
open G
set_option linter.unusedVariables false

/-- a geometry that may be: its level, disks, chunk -/
def okN (l d c : Nat) : Prop := (l = 5 ∧ 3 ≤ d ∨ l = 6 ∧ 4 ≤ d) ∧ d ≤ 8 ∧ (c = 1 ∨ c = 2 ∨ c = 4)
def pd (d c r : Nat) : Nat := d - 1 - r / c % d
/-- so many disks behind P -/
def off (d c r j : Nat) : Nat := (pd d c r + j) % d
theorem pd_lt {d c r : Nat} (hd : 0 < d) : pd d c r < d := by unfold pd; omega
theorem off_eq {d c r j : Nat} (hj : j < d) : off d c r j = if pd d c r + j < d then pd d c r + j else pd d c r + j - d := by
  have h := pd_lt (c := c) (r := r) (show 0 < d by omega)
  unfold off
  split
  · rename_i h1; exact Nat.mod_eq_of_lt h1
  · rw [Nat.mod_eq_sub_mod (by omega), Nat.mod_eq_of_lt (by omega)]
theorem off_lt {d c r j : Nat} (hj : j < d) : off d c r j < d := Nat.mod_lt _ (by omega)
theorem off_inj {d c r i j : Nat} (hi : i < d) (hj : j < d) (h : off d c r i = off d c r j) : i = j := by
  have hp := pd_lt (c := c) (r := r) (show 0 < d by omega)
  rw [off_eq hi, off_eq hj] at h
  split at h <;> split at h <;> omega
theorem off_zero {d c r : Nat} (hd : 0 < d) : off d c r 0 = pd d c r := by unfold off; rw [Nat.add_zero]; exact Nat.mod_eq_of_lt (pd_lt hd)
theorem off_onto {d c r i : Nat} (hi : i < d) : ∃ j, j < d ∧ off d c r j = i := by
  have hp := pd_lt (c := c) (r := r) (show 0 < d by omega)
  by_cases h : pd d c r ≤ i
  · exact ⟨i - pd d c r, by omega, by rw [off_eq (by omega), if_pos (by omega)]; omega⟩
  · exact ⟨i + d - pd d c r, by omega, by rw [off_eq (by omega), if_neg (by omega)]; omega⟩
/-- data laid on the disks, the first k -/
def fillA (b d c r : Nat) (data : List (List Nat)) : Nat → List (List Nat)
  | 0 => List.replicate d []
  | k + 1 => (fillA b d c r data k).set (off d c r (b + k)) (data.getD k [])
def fillP (b d c r : Nat) (data : List (List Nat)) : List (List Nat) := (fillA b d c r data data.length).set (off d c r 0) (P data)
def fillL (l d c r : Nat) (data : List (List Nat)) : List (List Nat) := if l = 6 then (fillP 2 d c r data).set (off d c r 1) (Q data) else fillP 1 d c r data
theorem fillA_len (b d c r : Nat) (data : List (List Nat)) (k : Nat) : (fillA b d c r data k).length = d := by
  induction k with
  | zero => simp [fillA]
  | succ k ih => simp [fillA, ih]
theorem fillP_len (b d c r : Nat) (data : List (List Nat)) : (fillP b d c r data).length = d := by simp [fillP, fillA_len]
theorem fillL_len (l d c r : Nat) (data : List (List Nat)) : (fillL l d c r data).length = d := by unfold fillL; split <;> simp [fillP_len]
theorem fillA_get {b d c r : Nat} {data : List (List Nat)} {k : Nat} (hk : b + k ≤ d) {j : Nat} (hj : j < d) : (fillA b d c r data k).getD (off d c r j) [] = if b ≤ j ∧ j < b + k then data.getD (j - b) [] else [] := by
  induction k with
  | zero =>
    rw [if_neg (by omega)]
    simp [fillA, List.getD, List.getElem?_replicate]
    split <;> rfl
  | succ k ih =>
    show ((fillA b d c r data k).set (off d c r (b + k)) (data.getD k [])).getD (off d c r j) [] = _
    rw [getD_set _ _ _ _ (by rw [fillA_len]; exact off_lt hj)]
    by_cases h : j = b + k
    · subst h
      rw [if_pos rfl, if_pos (by omega)]
      congr 1
      omega
    · rw [if_neg (fun e => h (off_inj (by omega) hj e).symm), ih (by omega)]
      by_cases h2 : b ≤ j ∧ j < b + k
      · rw [if_pos h2, if_pos (by omega)]
      · rw [if_neg h2, if_neg (by omega)]
/-- what stands so many disks behind P -/
def cont (l : Nat) (data : List (List Nat)) (j : Nat) : List Nat := if j = 0 then P data else if l = 6 ∧ j = 1 then Q data else data.getD (j - (l - 4)) []
theorem fillL_get {l d c r : Nat} {data : List (List Nat)} (hok : okN l d c) (hw : data.length = d - (l - 4)) {j : Nat} (hj : j < d) : (fillL l d c r data).getD (off d c r j) [] = cont l data j := by
  obtain ⟨h1, h2, h3⟩ := hok
  have key : ∀ b, b + data.length = d → 1 ≤ b → (fillP b d c r data).getD (off d c r j) [] = if j = 0 then P data else if j < b then [] else data.getD (j - b) [] := by
    intro b hb hb1
    unfold fillP
    rw [getD_set _ _ _ _ (by rw [fillA_len]; exact off_lt hj)]
    by_cases h0 : j = 0
    · subst h0; rw [if_pos rfl, if_pos rfl]
    · rw [if_neg (fun e => h0 (off_inj (by omega) hj e).symm), if_neg h0, fillA_get (by omega) hj]
      by_cases h4 : j < b
      · rw [if_neg (by omega), if_pos h4]
      · rw [if_pos (by omega), if_neg h4]
  unfold cont fillL
  rcases h1 with ⟨rfl, h1⟩ | ⟨rfl, h1⟩
  · rw [if_neg (by decide), key 1 (by omega) (by omega)]
    by_cases h0 : j = 0
    · rw [if_pos h0, if_pos h0]
    · rw [if_neg h0, if_neg h0, if_neg (by omega), if_neg (by omega)]
  · rw [if_pos rfl, getD_set _ _ _ _ (by rw [fillP_len]; exact off_lt hj)]
    by_cases h4 : j = 1
    · subst h4
      rw [if_pos rfl, if_neg (by decide), if_pos ⟨rfl, rfl⟩]
    · rw [if_neg (fun e => h4 (off_inj (by omega) hj e).symm), key 2 (by omega) (by omega)]
      by_cases h0 : j = 0
      · rw [if_pos h0, if_pos h0]
      · rw [if_neg h0, if_neg h0, if_neg (by omega), if_neg (by omega)]
/-- the data's places of a row -/
def takeL (l d c r : Nat) (rows : List (List Nat)) : List (List Nat) := (List.range (d - (l - 4))).map (fun k => rows.getD (off d c r (l - 4 + k)) [])
theorem takeL_len (l d c r : Nat) (rows : List (List Nat)) : (takeL l d c r rows).length = d - (l - 4) := by simp [takeL]
theorem takeL_get {l d c r : Nat} {rows : List (List Nat)} {k : Nat} (hk : k < d - (l - 4)) : (takeL l d c r rows).getD k [] = rows.getD (off d c r (l - 4 + k)) [] := by simp [takeL, List.getD, hk]
def takeA (l d c r : Nat) (rows : List (List Nat)) (k : Nat) : List (List Nat) := (List.range k).map (fun k => rows.getD (off d c r (l - 4 + k)) [])
def qOf (l d c r : Nat) (rows : List (List Nat)) : List Nat := if l = 6 then rows.getD (off d c r 1) [] else []
def pOf (d c r : Nat) (rows : List (List Nat)) : List Nat := rows.getD (off d c r 0) []
theorem take_fill {l d c r : Nat} {data : List (List Nat)} (hok : okN l d c) (hw : data.length = d - (l - 4)) : takeL l d c r (fillL l d c r data) = data := by
  have h := hok
  obtain ⟨h1, h2, h3⟩ := h
  refine getD_eq (by rw [takeL_len, hw]) fun k hk => ?_
  rw [takeL_len] at hk
  rw [takeL_get hk, fillL_get hok hw (by omega)]
  unfold cont
  rw [if_neg (by omega), if_neg (by omega)]
  congr 1
  omega
theorem pOf_fill {l d c r : Nat} {data : List (List Nat)} (hok : okN l d c) (hw : data.length = d - (l - 4)) : pOf d c r (fillL l d c r data) = P data := by
  have h := hok
  obtain ⟨h1, h2, h3⟩ := h
  unfold pOf
  rw [fillL_get hok hw (by omega)]
  rfl
theorem qOf_fill {l d c r : Nat} {data : List (List Nat)} (hok : okN l d c) (hw : data.length = d - (l - 4)) : qOf l d c r (fillL l d c r data) = if l = 6 then Q data else [] := by
  have h := hok
  obtain ⟨h1, h2, h3⟩ := h
  unfold qOf
  split
  · rename_i h6
    rw [fillL_get hok hw (by omega)]
    unfold cont
    rw [if_neg (by decide), if_pos ⟨h6, rfl⟩]
  · rfl
theorem fillL_32 {l d c r : Nat} {data : List (List Nat)} (hok : okN l d c) (hw : data.length = d - (l - 4)) (h32 : ∀ p ∈ data, p.length = 32) : ∀ p ∈ fillL l d c r data, p.length = 32 := by
  have h := hok
  obtain ⟨h1, h2, h3⟩ := h
  intro p hp
  obtain ⟨i, hi, rfl⟩ := List.getElem_of_mem hp
  rw [fillL_len] at hi
  obtain ⟨j, hj, rfl⟩ := off_onto (c := c) (r := r) hi
  have e := fillL_get (r := r) hok hw hj
  rw [List.getD, List.getElem?_eq_getElem (by rw [fillL_len]; exact hi)] at e
  show ((some _).getD [] : List Nat).length = 32
  rw [e]
  unfold cont
  split
  · exact P_len h32 (by omega)
  · split
    · exact Q_len h32 (by omega)
    · exact getD_len h32 (by omega)
theorem miss2_len (p q : List Nat) : (missL [p, q]).length = (if p = [] then 1 else 0) + (if q = [] then 1 else 0) := by
  unfold missL
  show ((List.range 2).filter _).length = _
  rw [show List.range 2 = [0, 1] from rfl]
  by_cases h1 : p = [] <;> by_cases h2 : q = [] <;> simp [h1, h2, List.filter]
theorem solve_all_len {n : Nat} {p q : List Nat} {ls : List (List Nat)} (h : solveB (n : Int) p q ls = true) : ∀ r ∈ solveL n p q ls, r.length = n := by
  unfold solveB at h
  rw [Bool.and_eq_true, Bool.and_eq_true, Bool.and_eq_true, decide_eq_true_iff, decide_eq_true_iff] at h
  obtain ⟨⟨⟨⟨h1, h2, h3⟩, hf⟩, hf2⟩, hc⟩ := h
  have fit : ∀ {ms : List (List Nat)}, fitsB (n : Int) ms = true → ∀ r ∈ ms, r.length = 0 ∨ r.length = n := by
    intro ms hm r hr
    have := List.all_eq_true.1 hm r hr
    rw [decide_eq_true_iff] at this
    omega
  have hO : ∀ r ∈ ls.map (fz n), r.length = n := by
    intro r hr
    obtain ⟨s, hs, rfl⟩ := List.mem_map.1 hr
    exact fz_len (fit hf s hs)
  have hOl : 0 < (ls.map (fz n)).length := by rw [List.length_map]; omega
  have hp := fit hf2 p (by simp)
  have hq := fit hf2 q (by simp)
  rw [miss2_len] at hc
  unfold solveL
  have pn : p ≠ [] → p.length = n := fun e => hp.resolve_left fun e2 => e (List.eq_nil_of_length_eq_zero e2)
  have qn : q ≠ [] → q.length = n := fun e => hq.resolve_left fun e2 => e (List.eq_nil_of_length_eq_zero e2)
  match hm : missL ls with
  | [] => exact hO
  | [j] =>
    show ∀ r ∈ (if 0 < p.length then (ls.map (fz n)).set j (addL p (P (ls.map (fz n)))) else (ls.map (fz n)).set j (byQL q (ls.map (fz n)) j)), r.length = n
    split
    · rename_i h4
      exact set_mem hO (addL_len2 (pn (fun e => by rw [e] at h4; simp at h4)) (P_len hO hOl))
    · rename_i h4
      have hp0 : p = [] := List.eq_nil_of_length_eq_zero (by omega)
      have hq0 : q ≠ [] := fun e => by
        rw [hm, if_pos hp0, if_pos e] at hc
        simp at hc
      exact set_mem hO (byQL_len (qn hq0) hO hOl j)
  | [j, k] =>
    have e : [j, k].length = 2 := rfl
    have hp0 : p ≠ [] := fun e1 => by rw [hm, if_pos e1, e] at hc; omega
    have hq0 : q ≠ [] := fun e1 => by rw [hm, if_pos e1, e] at hc; omega
    exact set_mem (set_mem hO (twoX_len (pn hp0) (qn hq0) hO hOl j k)) (twoY_len (pn hp0) (qn hq0) hO hOl j k)
  | j :: k :: m :: t => exact hO
def rightB (l d c r : Nat) (rows : List (List Nat)) : Bool := solveB ((32 : Nat) : Int) (pOf d c r rows) (qOf l d c r rows) (takeL l d c r rows) && decide (fillL l d c r (solveL 32 (pOf d c r rows) (qOf l d c r rows) (takeL l d c r rows)) = rows)
end Go.Proofs.Ytknodcaknopcnaa.Y
