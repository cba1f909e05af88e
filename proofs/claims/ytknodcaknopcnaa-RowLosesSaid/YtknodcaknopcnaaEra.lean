/- The plain law of package erase: what is missing is as P and Q ask; given back as it was. -/
import Derived.Test.YtknodcaknopcnaaSyndMore
namespace Go.Proofs.Ytknodcaknopcnaa.Y
open G
set_option linter.unusedVariables false

abbrev at0 (l : List Nat) (i : Nat) : Nat := l.getD i 0
def missL (ls : List (List Nat)) : List Nat := (List.range ls.length).filter (fun i => decide ((ls.getD i []).length = 0))
def fz (n : Nat) (p : List Nat) : List Nat := p ++ List.replicate (n - p.length) 0
def byQL (q : List Nat) (l : List (List Nat)) (k : Nat) : List Nat := sclL (addL q (Q l)) (inv (pw k))
def twoX (p q : List Nat) (l : List (List Nat)) (j k : Nat) : List Nat := sclL (addL (addL q (Q l)) (sclL (addL p (P l)) (pw k))) (inv (pw j ^^^ pw k))
def twoY (p q : List Nat) (l : List (List Nat)) (j k : Nat) : List Nat := addL (addL p (P l)) (twoX p q l j k)
def solveAt (p q : List Nat) (out : List (List Nat)) : List Nat → List (List Nat)
  | [j, k] => (out.set j (twoX p q out j k)).set k (twoY p q out j k)
  | [j] => if 0 < p.length then out.set j (addL p (P out)) else out.set j (byQL q out j)
  | _ => out
def solveL (n : Nat) (p q : List Nat) (ls : List (List Nat)) : List (List Nat) := solveAt p q (ls.map (fz n)) (missL ls)
def fitsB (n : Int) (ls : List (List Nat)) : Bool := ls.all (fun p => decide (p.length = 0 ∨ (p.length : Int) = n))
def solveB (n : Int) (p q : List Nat) (ls : List (List Nat)) : Bool := decide (1 ≤ n ∧ 1 ≤ ls.length ∧ ls.length ≤ 8) && fitsB n ls && fitsB n [p, q] && decide ((missL ls).length + (missL [p, q]).length ≤ 2)

theorem at0_byte {l : List Nat} (h : ∀ x ∈ l, x < 256) (i : Nat) : at0 l i < 256 := by
  unfold at0
  rcases Nat.lt_or_ge i l.length with hi | hi
  · rw [show l.getD i 0 = l[i] by simp [List.getD, hi]]; exact h _ (List.getElem_mem hi)
  · simp [List.getD, List.getElem?_eq_none hi]
theorem ext_at {a b : List Nat} {n : Nat} (ha : a.length = n) (hb : b.length = n) (h : ∀ i, i < n → at0 a i = at0 b i) : a = b := by
  apply List.ext_getElem (by rw [ha, hb])
  intro i h1 h2
  have := h i (by omega)
  unfold at0 at this
  simpa [List.getD, h1, h2] using this
theorem addL_at {a b : List Nat} {n i : Nat} (ha : a.length = n) (hb : b.length = n) (hi : i < n) : at0 (addL a b) i = at0 a i ^^^ at0 b i := by
  unfold addL at0
  rw [if_pos (by rw [ha, hb])]
  simp [List.getD, List.getElem?_zipWith, show i < a.length by omega, show i < b.length by omega]
theorem sclL_at (l : List Nat) (f i : Nat) : at0 (sclL l f) i = gm (at0 l i) f := by
  unfold sclL at0
  simp only [List.getD, List.getElem?_map]
  cases h : l[i]? with
  | none => simp [gm_zero_left]
  | some x => simp
theorem sum_at (c : Nat → Nat) {ls : List (List Nat)} {n i : Nat} (h : ∀ p ∈ ls, p.length = n) (h0 : 0 < ls.length) (hi : i < n) : at0 (sumL c ls) i = S c ls ls.length i := by
  rw [sumL_of c h h0]
  unfold at0
  rw [List.getD, row_get _ _ _ _ _ hi]; rfl
theorem sum_len (c : Nat → Nat) {ls : List (List Nat)} {n : Nat} (h : ∀ p ∈ ls, p.length = n) (h0 : 0 < ls.length) : (sumL c ls).length = n := by rw [sumL_of c h h0, row_len]
theorem P_at {ls : List (List Nat)} {n i : Nat} (h : ∀ p ∈ ls, p.length = n) (h0 : 0 < ls.length) (hi : i < n) : at0 (P ls) i = S (fun _ => 1) ls ls.length i := sum_at _ h h0 hi
theorem Q_at {ls : List (List Nat)} {n i : Nat} (h : ∀ p ∈ ls, p.length = n) (h0 : 0 < ls.length) (hi : i < n) : at0 (Q ls) i = S pw ls ls.length i := sum_at _ h h0 hi
theorem P_len {ls : List (List Nat)} {n : Nat} (h : ∀ p ∈ ls, p.length = n) (h0 : 0 < ls.length) : (P ls).length = n := sum_len _ h h0
theorem Q_len {ls : List (List Nat)} {n : Nat} (h : ∀ p ∈ ls, p.length = n) (h0 : 0 < ls.length) : (Q ls).length = n := sum_len _ h h0
theorem S_set (c : Nat → Nat) {ls : List (List Nat)} {j : Nat} (hj : j < ls.length) (r : List Nat) (i : Nat) (hz : at0 (ls.getD j []) i = 0) (m : Nat) :
    S c (ls.set j r) m i = if j < m then S c ls m i ^^^ gm (at0 r i) (c j) else S c ls m i := by
  induction m with
  | zero => simp [S]
  | succ m ih =>
    show S c (ls.set j r) m i ^^^ gm (((ls.set j r).getD m []).getD i 0) (c m) = if j < m + 1 then S c ls m i ^^^ gm ((ls.getD m []).getD i 0) (c m) ^^^ gm (at0 r i) (c j) else S c ls m i ^^^ gm ((ls.getD m []).getD i 0) (c m)
    rw [ih]
    by_cases hm : j = m
    · subst hm
      have e : (ls.set j r).getD j [] = r := by simp [List.getD, hj]
      have e2 : (ls.getD j []).getD i 0 = 0 := hz
      rw [if_neg (Nat.lt_irrefl _), if_pos (Nat.lt_succ_self _), e, e2, gm_zero_left, Nat.xor_zero]
    · have e : (ls.set j r).getD m [] = ls.getD m [] := by simp only [List.getD, List.getElem?_set_ne hm]
      rw [e]
      by_cases h1 : j < m
      · rw [if_pos h1, if_pos (by omega), Nat.xor_assoc, Nat.xor_assoc, Nat.xor_comm (gm _ (c j))]
      · rw [if_neg h1, if_neg (by omega)]
theorem x_can' (a b : Nat) : a ^^^ (a ^^^ b) = b := by rw [← Nat.xor_assoc, Nat.xor_self, Nat.zero_xor]
theorem x_can (a b : Nat) : a ^^^ (b ^^^ a) = b := by rw [Nat.xor_comm b a, ← Nat.xor_assoc, Nat.xor_self, Nat.zero_xor]
theorem pw_x {j k : Nat} (hj : j < 255) (hk : k < 255) (h : j ≠ k) : pw j ^^^ pw k ≠ 0 := fun e => h (pw_inj hj hk (xor_eq_zero e))
/-- two unknown bytes told by their sum and their sum by coefficients -/
theorem two_tell {x y c d : Nat} (hx : x < 256) (hy : y < 256) (hc : c < 256) (hd : d < 256) (h : c ^^^ d ≠ 0) :
    gm ((gm x c ^^^ gm y d) ^^^ gm (x ^^^ y) d) (inv (c ^^^ d)) = x := by
  have hcd := xor8 hc hd
  have e : (gm x c ^^^ gm y d) ^^^ gm (x ^^^ y) d = gm x (c ^^^ d) := by
    rw [gm_xor_left d hx hy, gm_xor_right, Nat.xor_assoc]
    congr 1
    rw [Nat.xor_comm (gm x d), ← Nat.xor_assoc, Nat.xor_self, Nat.zero_xor]
  rw [e, ← gm_assoc hx hcd (inv_lt _), gm_inv hcd h, gm_one_right hx]
theorem two_is {a b c d : Nat} (ha : a < 256) (hb : b < 256) (hc : c < 256) (hd : d < 256) (h : c ^^^ d ≠ 0) :
    gm (gm (b ^^^ gm a d) (inv (c ^^^ d))) c ^^^ gm (a ^^^ gm (b ^^^ gm a d) (inv (c ^^^ d))) d = b := by
  have hcd := xor8 hc hd
  have hbg := xor8 hb (gm_lt d ha)
  obtain ⟨X, hX⟩ : ∃ X, X = gm (b ^^^ gm a d) (inv (c ^^^ d)) := ⟨_, rfl⟩
  have hX8 : X < 256 := by rw [hX]; exact gm_lt _ hbg
  have e : gm X (c ^^^ d) = b ^^^ gm a d := by rw [hX, ← gm_assoc hbg (inv_lt _) hcd, inv_gm hcd h, gm_one_right hbg]
  rw [← hX, gm_xor_left d ha hX8]
  have : gm X c ^^^ gm X d = b ^^^ gm a d := by rw [← gm_xor_right]; exact e
  calc gm X c ^^^ (gm a d ^^^ gm X d) = (gm X c ^^^ gm X d) ^^^ gm a d := by rw [Nat.xor_comm (gm a d), Nat.xor_assoc]
    _ = b := by rw [this, Nat.xor_assoc, Nat.xor_self, Nat.xor_zero]

theorem addL_len2 {a b : List Nat} {n : Nat} (ha : a.length = n) (hb : b.length = n) : (addL a b).length = n := by rw [addL_len (by rw [ha, hb]), ha]
theorem twoX_len {p q : List Nat} {l : List (List Nat)} {n : Nat} (hp : p.length = n) (hq : q.length = n) (h : ∀ r ∈ l, r.length = n) (h0 : 0 < l.length) (j k : Nat) : (twoX p q l j k).length = n := by
  unfold twoX
  rw [sclL_len]
  exact addL_len2 (addL_len2 hq (Q_len h h0)) (by rw [sclL_len]; exact addL_len2 hp (P_len h h0))
theorem twoY_len {p q : List Nat} {l : List (List Nat)} {n : Nat} (hp : p.length = n) (hq : q.length = n) (h : ∀ r ∈ l, r.length = n) (h0 : 0 < l.length) (j k : Nat) : (twoY p q l j k).length = n :=
  addL_len2 (addL_len2 hp (P_len h h0)) (twoX_len hp hq h h0 j k)
theorem byQL_len {q : List Nat} {l : List (List Nat)} {n : Nat} (hq : q.length = n) (h : ∀ r ∈ l, r.length = n) (h0 : 0 < l.length) (k : Nat) : (byQL q l k).length = n := by
  unfold byQL; rw [sclL_len]; exact addL_len2 hq (Q_len h h0)
theorem twoX_at {p q : List Nat} {l : List (List Nat)} {n i : Nat} (hp : p.length = n) (hq : q.length = n) (h : ∀ r ∈ l, r.length = n) (h0 : 0 < l.length) (hi : i < n) (j k : Nat) :
    at0 (twoX p q l j k) i = gm ((at0 q i ^^^ S pw l l.length i) ^^^ gm (at0 p i ^^^ S (fun _ => 1) l l.length i) (pw k)) (inv (pw j ^^^ pw k)) := by
  unfold twoX
  rw [sclL_at, addL_at (addL_len2 hq (Q_len h h0)) (by rw [sclL_len]; exact addL_len2 hp (P_len h h0)) hi, sclL_at, addL_at hq (Q_len h h0) hi, addL_at hp (P_len h h0) hi]
  rw [P_at h h0 hi, Q_at h h0 hi]
theorem twoY_at {p q : List Nat} {l : List (List Nat)} {n i : Nat} (hp : p.length = n) (hq : q.length = n) (h : ∀ r ∈ l, r.length = n) (h0 : 0 < l.length) (hi : i < n) (j k : Nat) :
    at0 (twoY p q l j k) i = (at0 p i ^^^ S (fun _ => 1) l l.length i) ^^^ at0 (twoX p q l j k) i := by
  unfold twoY
  rw [addL_at (addL_len2 hp (P_len h h0)) (twoX_len hp hq h h0 j k) hi, addL_at hp (P_len h h0) hi, P_at h h0 hi]
theorem byQL_at {q : List Nat} {l : List (List Nat)} {n i : Nat} (hq : q.length = n) (h : ∀ r ∈ l, r.length = n) (h0 : 0 < l.length) (hi : i < n) (k : Nat) :
    at0 (byQL q l k) i = gm (at0 q i ^^^ S pw l l.length i) (inv (pw k)) := by
  unfold byQL
  rw [sclL_at, addL_at hq (Q_len h h0) hi, Q_at h h0 hi]
theorem x_cut (s a b : Nat) : (s ^^^ a ^^^ b) ^^^ s = a ^^^ b := by
  rw [Nat.xor_assoc s a b, Nat.xor_comm s (a ^^^ b), Nat.xor_assoc, Nat.xor_self, Nat.xor_zero]
theorem x_cut1 (s a : Nat) : (s ^^^ a) ^^^ s = a := by rw [Nat.xor_comm s a, Nat.xor_assoc, Nat.xor_self, Nat.xor_zero]
theorem set_mem {ls : List (List Nat)} {n k : Nat} {r : List Nat} (h : ∀ p ∈ ls, p.length = n) (hr : r.length = n) : ∀ p ∈ ls.set k r, p.length = n := by
  intro p hp
  rcases List.mem_or_eq_of_mem_set hp with h1 | h1
  · exact h p h1
  · rw [h1]; exact hr
theorem getD_len {ls : List (List Nat)} {n k : Nat} (h : ∀ p ∈ ls, p.length = n) (hk : k < ls.length) : (ls.getD k []).length = n := by
  rw [show ls.getD k [] = ls[k] by simp [List.getD, hk]]; exact h _ (List.getElem_mem hk)
theorem S_set2 (c : Nat → Nat) {ls : List (List Nat)} {j k : Nat} (hj : j < ls.length) (hk : k < ls.length) (hne : j ≠ k) (r s : List Nat) (i : Nat) (hz : at0 (ls.getD j []) i = 0) (hz2 : at0 (ls.getD k []) i = 0) :
    S c ((ls.set j r).set k s) ls.length i = S c ls ls.length i ^^^ gm (at0 r i) (c j) ^^^ gm (at0 s i) (c k) := by
  have e : (ls.set j r).getD k [] = ls.getD k [] := by simp only [List.getD, List.getElem?_set_ne hne]
  rw [S_set c (ls := ls.set j r) (by rw [List.length_set]; exact hk) s i (by rw [e]; exact hz2), if_pos hk, S_set c hj r i hz, if_pos hj]
/-- of any P and Q, and any parts but two: P and Q of what is told are these -/
theorem two_sum {p q : List Nat} {l : List (List Nat)} {n j k : Nat} (hp : p.length = n) (hq : q.length = n) (h : ∀ r ∈ l, r.length = n) (hp8 : ∀ x ∈ p, x < 256) (hq8 : ∀ x ∈ q, x < 256) (hl8 : ∀ r ∈ l, ∀ x ∈ r, x < 256)
    (hj : j < l.length) (hk : k < l.length) (hne : j ≠ k) (h255 : l.length ≤ 255) (hzj : ∀ i, at0 (l.getD j []) i = 0) (hzk : ∀ i, at0 (l.getD k []) i = 0) :
    P ((l.set j (twoX p q l j k)).set k (twoY p q l j k)) = p ∧ Q ((l.set j (twoX p q l j k)).set k (twoY p q l j k)) = q := by
  have h0 : 0 < l.length := by omega
  have hx := twoX_len hp hq h h0 j k
  have hy := twoY_len hp hq h h0 j k
  have hall : ∀ r ∈ (l.set j (twoX p q l j k)).set k (twoY p q l j k), r.length = n := set_mem (set_mem h hx) hy
  have hlen : ((l.set j (twoX p q l j k)).set k (twoY p q l j k)).length = l.length := by simp
  have hc : pw j ^^^ pw k ≠ 0 := pw_x (by omega) (by omega) hne
  constructor
  · refine ext_at (sum_len _ hall (by rw [hlen]; exact h0)) hp fun i hi => ?_
    have ha : at0 p i ^^^ S (fun _ => 1) l l.length i < 256 := xor8 (at0_byte hp8 i) (S_byte _ l hl8 _ _)
    have hb : at0 q i ^^^ S pw l l.length i < 256 := xor8 (at0_byte hq8 i) (S_byte _ l hl8 _ _)
    have hX : at0 (twoX p q l j k) i < 256 := by rw [twoX_at hp hq h h0 hi]; exact gm_lt _ (xor8 hb (gm_lt _ ha))
    have hY : at0 (twoY p q l j k) i < 256 := by rw [twoY_at hp hq h h0 hi]; exact xor8 ha hX
    unfold P
    rw [sum_at _ hall (by rw [hlen]; exact h0) hi, hlen, S_set2 _ hj hk hne _ _ i (hzj i) (hzk i), gm_one_right hX, gm_one_right hY, twoY_at hp hq h h0 hi]
    obtain ⟨A, hA⟩ : ∃ A, A = S (fun _ => 1) l l.length i := ⟨_, rfl⟩
    obtain ⟨X, hX'⟩ : ∃ X, X = at0 (twoX p q l j k) i := ⟨_, rfl⟩
    rw [← hA, ← hX']
    calc A ^^^ X ^^^ ((at0 p i ^^^ A) ^^^ X) = (A ^^^ (at0 p i ^^^ A)) ^^^ (X ^^^ X) := xor_swap A X (at0 p i ^^^ A) X
      _ = at0 p i := by rw [Nat.xor_self, Nat.xor_zero, x_can]
  · refine ext_at (sum_len _ hall (by rw [hlen]; exact h0)) hq fun i hi => ?_
    have ha : at0 p i ^^^ S (fun _ => 1) l l.length i < 256 := xor8 (at0_byte hp8 i) (S_byte _ l hl8 _ _)
    have hb : at0 q i ^^^ S pw l l.length i < 256 := xor8 (at0_byte hq8 i) (S_byte _ l hl8 _ _)
    unfold Q
    rw [sum_at _ hall (by rw [hlen]; exact h0) hi, hlen, S_set2 _ hj hk hne _ _ i (hzj i) (hzk i), twoY_at hp hq h h0 hi, twoX_at hp hq h h0 hi, Nat.xor_assoc, two_is ha hb (pw_lt j) (pw_lt k) hc, Nat.xor_comm (at0 q i), ← Nat.xor_assoc, Nat.xor_self, Nat.zero_xor]
theorem miss_mem {ls : List (List Nat)} {i : Nat} : i ∈ missL ls ↔ i < ls.length ∧ ls.getD i [] = [] := by
  unfold missL
  rw [List.mem_filter, List.mem_range, decide_eq_true_iff, List.length_eq_zero_iff]
theorem miss_nodup (ls : List (List Nat)) : (missL ls).Nodup := (List.nodup_range).filter _
theorem fz_full {n : Nat} {p : List Nat} (h : p.length = n) : fz n p = p := by unfold fz; rw [h, Nat.sub_self]; simp
theorem fz_nil (n : Nat) : fz n [] = List.replicate n 0 := by simp [fz]
theorem at0_zeros (n i : Nat) : at0 (List.replicate n 0) i = 0 := by
  unfold at0
  rw [List.getD, List.getElem?_replicate]
  split <;> rfl
theorem fz_len {n : Nat} {p : List Nat} (h : p.length = 0 ∨ p.length = n) : (fz n p).length = n := by unfold fz; simp; omega
theorem out_get {ls : List (List Nat)} {n i : Nat} (hi : i < ls.length) : (ls.map (fz n)).getD i [] = fz n (ls.getD i []) := by simp [List.getD, hi]
/-- rows of which some are missing -/
def SomeOf (n : Nat) (x ls : List (List Nat)) : Prop := ls.length = x.length ∧ ∀ i, i < x.length → ls.getD i [] = [] ∨ ls.getD i [] = x.getD i []
theorem SomeOf.out_len {n : Nat} {x ls : List (List Nat)} (h : SomeOf n x ls) (hx : ∀ r ∈ x, r.length = n) : ∀ r ∈ ls.map (fz n), r.length = n := by
  intro r hr
  obtain ⟨p, hp, rfl⟩ := List.mem_map.1 hr
  obtain ⟨i, hi, rfl⟩ := List.getElem_of_mem hp
  refine fz_len ?_
  rcases h.2 i (by rw [← h.1]; exact hi) with e | e
  · left; rw [show ls[i] = ls.getD i [] by simp [List.getD, hi], e]; rfl
  · right; rw [show ls[i] = ls.getD i [] by simp [List.getD, hi], e]; exact getD_len hx (by rw [← h.1]; exact hi)
theorem SomeOf.there {n : Nat} {x ls : List (List Nat)} (h : SomeOf n x ls) (hx : ∀ r ∈ x, r.length = n) {i : Nat} (hi : i < x.length) (hm : i ∉ missL ls) : (ls.map (fz n)).getD i [] = x.getD i [] := by
  rw [out_get (by rw [h.1]; exact hi)]
  rcases h.2 i hi with e | e
  · exact absurd (miss_mem.2 ⟨by rw [h.1]; exact hi, e⟩) hm
  · rw [e]; exact fz_full (getD_len hx hi)
theorem SomeOf.gone {n : Nat} {x ls : List (List Nat)} (h : SomeOf n x ls) {i : Nat} (hm : i ∈ missL ls) : i < x.length ∧ ∀ t, at0 ((ls.map (fz n)).getD i []) t = 0 := by
  obtain ⟨h1, h2⟩ := miss_mem.1 hm
  refine ⟨by rw [← h.1]; exact h1, fun t => ?_⟩
  rw [out_get h1, h2, fz_nil]
  exact at0_zeros n t
theorem getD_eq {a b : List (List Nat)} (hl : a.length = b.length) (h : ∀ i, i < a.length → a.getD i [] = b.getD i []) : a = b := by
  apply List.ext_getElem hl
  intro i h1 h2
  have := h i h1
  simpa [List.getD, h1, h2] using this
theorem getD_set (l : List (List Nat)) (i j : Nat) (r : List Nat) (hi : i < l.length) : (l.set j r).getD i [] = if j = i then r else l.getD i [] := by
  simp only [List.getD, List.getElem?_set]
  by_cases h : j = i
  · subst h; simp [hi]
  · simp [h]
/-- two are missing, P and Q there -/
theorem back_two {n : Nat} {x ls : List (List Nat)} (hs : SomeOf n x ls) (hx : ∀ r ∈ x, r.length = n) (hx8 : ∀ r ∈ x, ∀ v ∈ r, v < 256) (h0 : 0 < x.length) (h8 : x.length ≤ 8) {j k : Nat} (hm : missL ls = [j, k]) :
    solveAt (P x) (Q x) (ls.map (fz n)) [j, k] = x := by
  have hj := hs.gone (i := j) (by rw [hm]; simp)
  have hk := hs.gone (i := k) (by rw [hm]; simp)
  have hne : j ≠ k := by have := miss_nodup ls; rw [hm] at this; simpa using this
  obtain ⟨O, hO⟩ : ∃ O, O = ls.map (fz n) := ⟨_, rfl⟩
  have hOl : O.length = x.length := by rw [hO, List.length_map, hs.1]
  have hOn : ∀ r ∈ O, r.length = n := by rw [hO]; exact hs.out_len hx
  rw [← hO] at hj hk ⊢
  have hxO : x = (O.set j (x.getD j [])).set k (x.getD k []) := by
    refine getD_eq (by simp [hOl]) fun i hi => ?_
    rw [getD_set _ _ _ _ (by simp [hOl]; exact hi), getD_set _ _ _ _ (by rw [hOl]; exact hi)]
    by_cases e1 : k = i
    · rw [if_pos e1, e1]
    · rw [if_neg e1]
      by_cases e2 : j = i
      · rw [if_pos e2, e2]
      · rw [if_neg e2, hO]
        exact (hs.there hx hi (by rw [hm]; simp; omega)).symm
  have hP : (P x).length = n := sum_len _ hx h0
  have hQ : (Q x).length = n := sum_len _ hx h0
  have hXl := twoX_len hP hQ hOn (by omega) j k
  have hYl := twoY_len hP hQ hOn (by omega) j k
  have hxj : (x.getD j []).length = n := getD_len hx hj.1
  have hxk : (x.getD k []).length = n := getD_len hx hk.1
  have hc : pw j ^^^ pw k ≠ 0 := pw_x (by omega) (by omega) hne
  have hS : ∀ (c : Nat → Nat) (i : Nat), S c x x.length i = S c O O.length i ^^^ gm (at0 (x.getD j []) i) (c j) ^^^ gm (at0 (x.getD k []) i) (c k) := by
    intro c i
    conv => lhs; rw [hxO]
    rw [show ((O.set j (x.getD j [])).set k (x.getD k [])).length = O.length by simp]
    exact S_set2 c (by rw [hOl]; exact hj.1) (by rw [hOl]; exact hk.1) hne _ _ i (hj.2 i) (hk.2 i)
  have b8 : ∀ (m i : Nat), at0 (x.getD m []) i < 256 := fun m i => getD_byte hx8 m i
  have key : ∀ i, i < n → at0 (P x) i ^^^ S (fun _ => 1) O O.length i = at0 (x.getD j []) i ^^^ at0 (x.getD k []) i := by
    intro i hi
    rw [P_at hx h0 hi, hS, gm_one_right (b8 j i), gm_one_right (b8 k i), x_cut]
  have keyq : ∀ i, i < n → at0 (Q x) i ^^^ S pw O O.length i = gm (at0 (x.getD j []) i) (pw j) ^^^ gm (at0 (x.getD k []) i) (pw k) := by
    intro i hi
    rw [Q_at hx h0 hi, hS, x_cut]
  have eX : twoX (P x) (Q x) O j k = x.getD j [] := by
    refine ext_at hXl hxj fun i hi => ?_
    rw [twoX_at hP hQ hOn (by omega) hi, key i hi, keyq i hi]
    exact two_tell (b8 j i) (b8 k i) (pw_lt j) (pw_lt k) hc
  have eY : twoY (P x) (Q x) O j k = x.getD k [] := by
    refine ext_at hYl hxk fun i hi => ?_
    rw [twoY_at hP hQ hOn (by omega) hi, key i hi, eX, Nat.xor_comm, x_can']
  show (O.set j (twoX (P x) (Q x) O j k)).set k (twoY (P x) (Q x) O j k) = x
  rw [eX, eY]
  exact hxO.symm
/-- one is missing, P or Q there -/
theorem back_one {n : Nat} {x ls : List (List Nat)} (hs : SomeOf n x ls) (hx : ∀ r ∈ x, r.length = n) (hx8 : ∀ r ∈ x, ∀ v ∈ r, v < 256) (h0 : 0 < x.length) (h8 : x.length ≤ 8) (hn : 0 < n) {j : Nat} (hm : missL ls = [j]) (p q : List Nat)
    (hpq : p = P x ∨ p = [] ∧ q = Q x) : solveAt p q (ls.map (fz n)) [j] = x := by
  have hj := hs.gone (i := j) (by rw [hm]; simp)
  obtain ⟨O, hO⟩ : ∃ O, O = ls.map (fz n) := ⟨_, rfl⟩
  have hOl : O.length = x.length := by rw [hO, List.length_map, hs.1]
  have hOn : ∀ r ∈ O, r.length = n := by rw [hO]; exact hs.out_len hx
  rw [← hO] at hj ⊢
  have hxO : x = O.set j (x.getD j []) := by
    refine getD_eq (by simp [hOl]) fun i hi => ?_
    rw [getD_set _ _ _ _ (by rw [hOl]; exact hi)]
    by_cases e2 : j = i
    · rw [if_pos e2, e2]
    · rw [if_neg e2, hO]
      exact (hs.there hx hi (by rw [hm]; simp; omega)).symm
  have hxj : (x.getD j []).length = n := getD_len hx hj.1
  have b8 : ∀ (m i : Nat), at0 (x.getD m []) i < 256 := fun m i => getD_byte hx8 m i
  have hS : ∀ (c : Nat → Nat) (i : Nat), S c x x.length i = S c O O.length i ^^^ gm (at0 (x.getD j []) i) (c j) := by
    intro c i
    conv => lhs; rw [hxO]
    rw [show (O.set j (x.getD j [])).length = O.length by simp, S_set c (by rw [hOl]; exact hj.1) _ i (hj.2 i), if_pos (by rw [hOl]; exact hj.1)]
  rcases hpq with rfl | ⟨rfl, rfl⟩
  · have hP : (P x).length = n := P_len hx h0
    show (if 0 < (P x).length then O.set j (addL (P x) (P O)) else O.set j (byQL q O j)) = x
    rw [if_pos (by rw [hP]; exact hn)]
    have e : addL (P x) (P O) = x.getD j [] := by
      refine ext_at (addL_len2 hP (P_len hOn (by omega))) hxj fun i hi => ?_
      rw [addL_at hP (P_len hOn (by omega)) hi, P_at hx h0 hi, P_at hOn (by omega) hi, hS, gm_one_right (b8 j i), x_cut1]
    rw [e]
    exact hxO.symm
  · have hQ : (Q x).length = n := Q_len hx h0
    show (if 0 < ([] : List Nat).length then O.set j (addL [] (P O)) else O.set j (byQL (Q x) O j)) = x
    rw [if_neg (by simp)]
    have e : byQL (Q x) O j = x.getD j [] := by
      refine ext_at (byQL_len hQ hOn (by omega) j) hxj fun i hi => ?_
      rw [byQL_at hQ hOn (by omega) hi, Q_at hx h0 hi, hS, x_cut1, ← gm_assoc (b8 j i) (pw_lt j) (inv_lt _), gm_inv (pw_lt j) (pw_ne_zero j), gm_one_right (b8 j i)]
    rw [e]
    exact hxO.symm
theorem back_none {n : Nat} {x ls : List (List Nat)} (hs : SomeOf n x ls) (hx : ∀ r ∈ x, r.length = n) (hm : missL ls = []) : ls.map (fz n) = x :=
  getD_eq (by rw [List.length_map, hs.1]) fun i hi => hs.there hx (by rw [← hs.1]; simpa using hi) (by rw [hm]; simp)
/-- what any of parts, P, Q had is told by the rest, as long as no more than two are missing -/
theorem solve_back {n : Nat} {x ls : List (List Nat)} {p q : List Nat} (hs : SomeOf n x ls) (hx : ∀ r ∈ x, r.length = n) (hx8 : ∀ r ∈ x, ∀ v ∈ r, v < 256) (h0 : 0 < x.length) (h8 : x.length ≤ 8) (hn : 0 < n)
    (hp : p = P x ∨ p = []) (hq : q = Q x ∨ q = []) (hc : (missL ls).length + (missL [p, q]).length ≤ 2) : solveB n p q ls = true ∧ solveL n p q ls = x := by
  have hPl : (P x).length = n := P_len hx h0
  have hQl : (Q x).length = n := Q_len hx h0
  have hfit : fitsB n ls = true := by
    unfold fitsB
    rw [List.all_eq_true]
    intro r hr
    rw [decide_eq_true_iff]
    obtain ⟨i, hi, rfl⟩ := List.getElem_of_mem hr
    rcases hs.2 i (by rw [← hs.1]; exact hi) with e | e
    · left; rw [show ls[i] = ls.getD i [] by simp [List.getD, hi], e]; rfl
    · right; rw [show ls[i] = ls.getD i [] by simp [List.getD, hi], e, getD_len hx (by rw [← hs.1]; exact hi)]
  have hfit2 : fitsB n [p, q] = true := by
    unfold fitsB
    simp only [List.all_cons, List.all_nil, Bool.and_true, Bool.and_eq_true, decide_eq_true_iff]
    refine ⟨?_, ?_⟩
    · rcases hp with rfl | rfl
      · right; rw [hPl]
      · left; rfl
    · rcases hq with rfl | rfl
      · right; rw [hQl]
      · left; rfl
  have hm2 : (missL [p, q]).length = (if p = [] then 1 else 0) + (if q = [] then 1 else 0) := by
    unfold missL
    show ((List.range 2).filter _).length = _
    rw [show List.range 2 = [0, 1] from rfl]
    by_cases h1 : p = [] <;> by_cases h2 : q = [] <;> simp [h1, h2, List.filter]
  have hpn : P x ≠ [] := fun e => by rw [e] at hPl; simp at hPl; omega
  have hqn : Q x ≠ [] := fun e => by rw [e] at hQl; simp at hQl; omega
  refine ⟨by unfold solveB; rw [hfit, hfit2, Bool.and_eq_true, Bool.and_eq_true, Bool.and_eq_true, decide_eq_true_iff, decide_eq_true_iff]; exact ⟨⟨⟨⟨by omega, by rw [hs.1]; omega, by rw [hs.1]; omega⟩, rfl⟩, rfl⟩, hc⟩, ?_⟩
  unfold solveL
  rw [hm2] at hc
  match hm : missL ls with
  | [] => exact back_none hs hx hm
  | [j] =>
    refine back_one hs hx hx8 h0 h8 hn hm p q ?_
    rcases hp with rfl | rfl
    · exact .inl rfl
    · rcases hq with rfl | rfl
      · exact .inr ⟨rfl, rfl⟩
      · rw [hm] at hc; simp at hc
  | [j, k] =>
    rcases hp with rfl | rfl
    · rcases hq with rfl | rfl
      · exact back_two hs hx hx8 h0 h8 hm
      · rw [hm, if_neg hpn, if_pos rfl] at hc; have e : [j, k].length = 2 := rfl; rw [e] at hc; omega
    · rw [hm, if_pos rfl] at hc; have e : [j, k].length = 2 := rfl; rw [e] at hc; omega
  | j :: k :: m :: t => rw [hm] at hc; simp at hc; omega
end Go.Proofs.Ytknodcaknopcnaa.Y
