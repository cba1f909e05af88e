/- The plain laws of a row: whole rows, one byte turned. -/
import Derived.Test.YtknodcaknopcnaaRw
namespace Go.Proofs.Ytknodcaknopcnaa.Y
open G
set_option linter.unusedVariables false

theorem miss_none {n : Nat} {ls : List (List Nat)} (h : ∀ r ∈ ls, r.length = n) (hn : 0 < n) : missL ls = [] := by
  refine List.eq_nil_iff_forall_not_mem.2 fun i hi => ?_
  obtain ⟨h1, h2⟩ := miss_mem.1 hi
  have := getD_len h h1
  rw [h2] at this
  simp at this
  omega
theorem solve_whole {n : Nat} {ls : List (List Nat)} {p q : List Nat} (h : ∀ r ∈ ls, r.length = n) (hn : 0 < n) (h1 : 1 ≤ ls.length) (h8 : ls.length ≤ 8) (hp : p.length = n) (hq : q.length = n ∨ q = []) : solveB (n : Int) p q ls = true ∧ solveL n p q ls = ls := by
  have hm := miss_none h hn
  have hpn : p ≠ [] := fun e => by rw [e] at hp; simp at hp; omega
  have hfit : fitsB n ls = true := by
    unfold fitsB
    rw [List.all_eq_true]
    intro r hr
    rw [decide_eq_true_iff]
    right; rw [h r hr]
  have hfit2 : fitsB n [p, q] = true := by
    unfold fitsB
    simp only [List.all_cons, List.all_nil, Bool.and_true, Bool.and_eq_true, decide_eq_true_iff]
    refine ⟨by right; rw [hp], ?_⟩
    rcases hq with h | rfl
    · right; rw [h]
    · left; rfl
  refine ⟨?_, ?_⟩
  · unfold solveB
    rw [hfit, hfit2, Bool.and_eq_true, Bool.and_eq_true, Bool.and_eq_true, decide_eq_true_iff, decide_eq_true_iff]
    refine ⟨⟨⟨⟨by omega, h1, h8⟩, rfl⟩, rfl⟩, ?_⟩
    rw [hm, miss2_len, if_neg hpn, List.length_nil]
    split <;> omega
  · unfold solveL
    rw [hm]
    show ls.map (fz n) = ls
    conv => rhs; rw [← List.map_id ls]
    exact List.map_congr_left fun r hr => fz_full (h r hr)
theorem takeL_32 {l d c r : Nat} {rows : List (List Nat)} (hok : okN l d c) (hd : rows.length = d) (h : ∀ p ∈ rows, p.length = 32) : ∀ p ∈ takeL l d c r rows, p.length = 32 := by
  intro p hp
  obtain ⟨k, hk, rfl⟩ := List.mem_map.1 hp
  rw [List.mem_range] at hk
  exact getD_len h (by rw [hd]; exact off_lt (by have := hok.1; omega))
theorem right_whole {l d c r : Nat} {rows : List (List Nat)} (hok : okN l d c) (hd : rows.length = d) (h : ∀ p ∈ rows, p.length = 32) : rightB l d c r rows = decide (fillL l d c r (takeL l d c r rows) = rows) := by
  have hok' := hok
  obtain ⟨h1, h2, h3⟩ := hok'
  have ht := takeL_32 (r := r) hok hd h
  obtain ⟨e1, e2⟩ := solve_whole (p := pOf d c r rows) (q := qOf l d c r rows) ht (by decide) (by rw [takeL_len]; omega) (by rw [takeL_len]; omega) (getD_len h (by rw [hd]; exact off_lt (by omega)))
    (by unfold qOf; split
        · exact .inl (getD_len h (by rw [hd]; exact off_lt (by omega)))
        · exact .inr rfl)
  unfold rightB
  rw [e1, e2, Bool.true_and]
theorem set_set' (ls : List (List Nat)) (k : Nat) (a b : List Nat) : (ls.set k a).set k b = ls.set k b := List.set_set a
theorem P_set_at {data : List (List Nat)} {n k t : Nat} {u : List Nat} (h : ∀ p ∈ data, p.length = n) (hk : k < data.length) (hu : u.length = n) (hu8 : ∀ x ∈ u, x < 256) (ht : t < n) :
    at0 (P (data.set k u)) t = S (fun _ => 1) (data.set k (List.replicate n 0)) data.length t ^^^ at0 u t := by
  rw [P_at (n := n) (set_mem h hu) (by simp; omega) ht, List.length_set]
  conv => lhs; rw [← set_set' data k (List.replicate n 0) u]
  rw [S_set _ (by simpa using hk) u t (by rw [getD_set _ _ _ _ hk, if_pos rfl]; exact at0_zeros n t), if_pos hk, gm_one_right (at0_byte hu8 t)]
theorem Q_set_at {data : List (List Nat)} {n k t : Nat} {u : List Nat} (h : ∀ p ∈ data, p.length = n) (hk : k < data.length) (hu : u.length = n) (ht : t < n) :
    at0 (Q (data.set k u)) t = S pw (data.set k (List.replicate n 0)) data.length t ^^^ gm (at0 u t) (pw k) := by
  rw [Q_at (n := n) (set_mem h hu) (by simp; omega) ht, List.length_set]
  conv => lhs; rw [← set_set' data k (List.replicate n 0) u]
  rw [S_set _ (by simpa using hk) u t (by rw [getD_set _ _ _ _ hk, if_pos rfl]; exact at0_zeros n t), if_pos hk]
theorem set_same (data : List (List Nat)) (k : Nat) (hk : k < data.length) : data.set k (data.getD k []) = data := by
  refine getD_eq (by simp) fun i hi => ?_
  rw [getD_set _ _ _ _ (by simpa using hi)]
  split
  · rename_i e; rw [e]
  · rfl
/-- one byte of a row turned is found -/
theorem turned_right {l d c r : Nat} {data : List (List Nat)} (hok : okN l d c) (hw : data.length = d - (l - 4)) (h32 : ∀ p ∈ data, p.length = 32) (h8 : ∀ p ∈ data, ∀ x ∈ p, x < 256) {i t x y : Nat} (hi : i < d) (ht : t < 32)
    (hx : ((fillL l d c r data).getD i []).getD t 0 = x) (hy : y < 256) : rightB l d c r ((fillL l d c r data).set i (((fillL l d c r data).getD i []).set t y)) = decide (x = y) := by
  have hok' := hok
  obtain ⟨h1, h2, h3⟩ := hok'
  have hF := fillL_32 (r := r) hok hw h32
  have hFl := fillL_len l d c r data
  obtain ⟨X, hX⟩ : ∃ X, X = fillL l d c r data := ⟨_, rfl⟩
  rw [← hX] at hF hFl hx ⊢
  obtain ⟨p, hp⟩ : ∃ p, p = X.getD i [] := ⟨_, rfl⟩
  rw [← hp] at hx ⊢
  have hpl : p.length = 32 := by rw [hp]; exact getD_len hF (by rw [hFl]; exact hi)
  rw [right_whole hok (by rw [List.length_set]; exact hFl) (set_mem hF (by rw [List.length_set]; exact hpl))]
  have hpt : (p.set t y).getD t 0 = y := by rw [List.getD_eq_getElem?_getD, List.getElem?_set_self (by rw [hpl]; exact ht)]; rfl
  rw [Bool.eq_iff_iff, decide_eq_true_iff, decide_eq_true_iff]
  constructor
  · intro hE
    obtain ⟨j, hj, hji⟩ := off_onto (c := c) (r := r) hi
    have hti : ∀ k, k < d - (l - 4) → (takeL l d c r (X.set i (p.set t y))).getD k [] = if j = l - 4 + k then p.set t y else data.getD k [] := by
      intro k hk
      rw [takeL_get hk, getD_set _ _ _ _ (by rw [hFl]; exact off_lt (by omega))]
      by_cases e : j = l - 4 + k
      · rw [if_pos e, if_pos (by rw [← hji, e])]
      · rw [if_neg e, if_neg (fun e2 => e (off_inj hj (by omega) (by rw [hji, e2])))]
        have := takeL_get (l := l) (c := c) (r := r) (rows := X) hk
        rw [← this, hX, take_fill hok hw]
    by_cases hjb : j < l - 4
    · have e : takeL l d c r (X.set i (p.set t y)) = data := getD_eq (by rw [takeL_len, hw]) fun k hk => by
        rw [takeL_len] at hk
        rw [hti k hk, if_neg (by omega)]
      rw [e, ← hX] at hE
      have h5 : (X.getD i []).getD t 0 = ((X.set i (p.set t y)).getD i []).getD t 0 := by rw [← hE]
      rw [getD_set _ _ _ _ (by rw [hFl]; exact hi), if_pos rfl, hpt, ← hp, hx] at h5
      exact h5
    · have hjk : j = l - 4 + (j - (l - 4)) := by omega
      obtain ⟨k, hk⟩ : ∃ k, k = j - (l - 4) := ⟨_, rfl⟩
      rw [← hk] at hjk
      have hkd : k < data.length := by omega
      have e : takeL l d c r (X.set i (p.set t y)) = data.set k (p.set t y) := getD_eq (by rw [takeL_len, List.length_set, hw]) fun k' hk' => by
        rw [takeL_len] at hk'
        rw [hti k' hk', getD_set _ _ _ _ (by omega)]
        by_cases e3 : k = k'
        · rw [if_pos e3, if_pos (by omega)]
        · rw [if_neg e3, if_neg (by omega)]
      rw [e] at hE
      have hpd : p = data.getD k [] := by
        rw [hp, ← hji, hX, fillL_get hok hw hj]
        unfold cont
        rw [if_neg (by omega), if_neg (by omega), hk]
      have hp8 : ∀ v ∈ p, v < 256 := by
        rw [hpd]
        rw [show data.getD k [] = data[k] by simp [List.getD, hkd]]
        exact h8 _ (List.getElem_mem hkd)
      have hs8 : ∀ v ∈ p.set t y, v < 256 := fun v hv => (List.mem_or_eq_of_mem_set hv).elim (hp8 v) (fun e => by rw [e]; exact hy)
      have h0 : (fillL l d c r (data.set k (p.set t y))).getD (off d c r 0) [] = (X.set i (p.set t y)).getD (off d c r 0) [] := by rw [hE]
      rw [fillL_get hok (by rw [List.length_set]; exact hw) (by omega), getD_set _ _ _ _ (by rw [hFl]; exact off_lt (by omega)), if_neg (fun e2 => by have := off_inj (c := c) (r := r) hj (show 0 < d by omega) (by rw [hji, e2]); omega), hX, fillL_get hok hw (by omega)] at h0
      have h0' : P (data.set k (p.set t y)) = P data := h0
      have h6 := congrArg (fun q => at0 q t) h0'
      try dsimp only at h6
      rw [P_set_at h32 hkd (by rw [List.length_set]; exact hpl) hs8 ht] at h6
      conv at h6 => rhs; rw [← set_same data k hkd]
      rw [P_set_at h32 hkd (getD_len h32 hkd) (by rw [← hpd]; exact hp8) ht, ← hpd] at h6
      have h7 : at0 (p.set t y) t = at0 p t := by
        have := congrArg (fun z => S (fun _ => 1) (data.set k (List.replicate 32 0)) data.length t ^^^ z) h6
        rwa [x_can', x_can'] at this
      unfold at0 at h7
      rw [hpt, hx] at h7
      exact h7.symm
  · intro hxy
    have e : p.set t y = p := by
      apply List.ext_getElem (by simp)
      intro m h5 h6
      by_cases e : t = m
      · subst e
        have := hx
        rw [List.getD_eq_getElem?_getD, List.getElem?_eq_getElem h6] at this
        simp only [Option.getD_some] at this
        simp [this, hxy]
      · simp [e]
    rw [e, hp, set_same X i (by rw [hFl]; exact hi), hX, take_fill hok hw]
end Go.Proofs.Ytknodcaknopcnaa.Y
