/- The plain laws of a row of which some sectors are missing. -/
import Derived.Test.YtknodcaknopcnaaRwL
namespace Go.Proofs.Ytknodcaknopcnaa.Y
open G
set_option linter.unusedVariables false

theorem len_le_of_subset : ∀ (L M : List Nat), L.Nodup → (∀ x ∈ L, x ∈ M) → L.length ≤ M.length
  | [], M, _, _ => Nat.zero_le _
  | a :: L, M, hn, hs => by
    have ha : a ∈ M := hs a (by simp)
    have h1 := List.nodup_cons.1 hn
    have := len_le_of_subset L (M.erase a) h1.2 (fun x hx => (List.mem_erase_of_ne (fun e => h1.1 (by rw [← e]; exact hx))).2 (hs x (by simp [hx])))
    have h2 := List.length_erase_of_mem ha
    have h3 : 0 < M.length := List.length_pos_of_mem ha
    simp only [List.length_cons]
    omega
theorem miss_le {l d c r : Nat} {rows : List (List Nat)} (hok : okN l d c) (M : List Nat) (hM : ∀ i, i < d → rows.getD i [] = [] → i ∈ M) :
    (missL (takeL l d c r rows)).length + (missL [pOf d c r rows, qOf l d c r rows]).length ≤ M.length + (if l = 5 then 1 else 0) := by
  have hok' := hok
  obtain ⟨h1, h2, h3⟩ := hok'
  rw [miss2_len]
  have hmem : ∀ k ∈ missL (takeL l d c r rows), k < d - (l - 4) ∧ rows.getD (off d c r (l - 4 + k)) [] = [] := by
    intro k hk
    obtain ⟨h4, h5⟩ := miss_mem.1 hk
    rw [takeL_len] at h4
    rw [takeL_get h4] at h5
    exact ⟨h4, h5⟩
  obtain ⟨K, hK⟩ : ∃ K, K = missL (takeL l d c r rows) := ⟨_, rfl⟩
  have hKn : K.Nodup := by rw [hK]; exact miss_nodup _
  rw [← hK] at hmem ⊢
  have hmap : ((K.map (fun k => l - 4 + k))).Nodup := by
    rw [List.nodup_iff_pairwise_ne] at *
    exact List.pairwise_map.2 (hKn.imp fun h e => h (by omega))
  have jn : ∀ (J : List Nat), J.Nodup → (∀ j ∈ J, j < d) → (J.map (off d c r)).Nodup := by
    intro J hJ hJd
    rw [List.nodup_iff_pairwise_ne] at *
    rw [List.pairwise_map]
    exact hJ.imp_of_mem fun ha hb h e => h (off_inj (hJd _ ha) (hJd _ hb) e)
  have main : ∀ (J : List Nat), J.Nodup → (∀ j ∈ J, j < d ∧ rows.getD (off d c r j) [] = []) → J.length ≤ M.length := by
    intro J hJ hJd
    have := len_le_of_subset (J.map (off d c r)) M (jn J hJ fun j hj => (hJd j hj).1) (fun x hx => by
      obtain ⟨j, hj, rfl⟩ := List.mem_map.1 hx
      exact hM _ (off_lt (hJd j hj).1) (hJd j hj).2)
    rwa [List.length_map] at this
  have hKd : ∀ j ∈ K.map (fun k => l - 4 + k), j < d ∧ rows.getD (off d c r j) [] = [] := by
    intro j hj
    obtain ⟨k, hk, rfl⟩ := List.mem_map.1 hj
    obtain ⟨a, b⟩ := hmem k hk
    exact ⟨by omega, b⟩
  have hge : ∀ j ∈ K.map (fun k => l - 4 + k), l - 4 ≤ j := by
    intro j hj
    obtain ⟨k, hk, rfl⟩ := List.mem_map.1 hj
    omega
  rcases h1 with ⟨rfl, h1⟩ | ⟨rfl, h1⟩
  · have hq : qOf 5 d c r rows = [] := by unfold qOf; rw [if_neg (by decide)]
    rw [if_pos hq, if_pos rfl]
    by_cases hp : pOf d c r rows = []
    · rw [if_pos hp]
      have := main (0 :: K.map (fun k => 5 - 4 + k)) (List.nodup_cons.2 ⟨fun h => by have := hge 0 h; omega, hmap⟩) (fun j hj => by
        rcases List.mem_cons.1 hj with rfl | hj
        · exact ⟨by omega, hp⟩
        · exact hKd j hj)
      simp only [List.length_cons, List.length_map] at this
      omega
    · rw [if_neg hp]
      have := main _ hmap hKd
      rw [List.length_map] at this
      omega
  · rw [if_neg (show ¬ (6 : Nat) = 5 by decide)]
    have hqo : qOf 6 d c r rows = rows.getD (off d c r 1) [] := by unfold qOf; rw [if_pos rfl]
    have step1 : ∀ (J : List Nat), J.Nodup → (∀ j ∈ J, 2 ≤ j) → (∀ j ∈ J, j < d ∧ rows.getD (off d c r j) [] = []) → J.length + (if qOf 6 d c r rows = [] then 1 else 0) + (if pOf d c r rows = [] then 1 else 0) ≤ M.length := by
      intro J hJ hJ2 hJd
      by_cases hq : qOf 6 d c r rows = []
      · rw [if_pos hq]
        have hq1 : rows.getD (off d c r 1) [] = [] := by rw [← hqo]; exact hq
        have hJ1 : (1 :: J).Nodup := List.nodup_cons.2 ⟨fun h => by have := hJ2 1 h; omega, hJ⟩
        have hJ1d : ∀ j ∈ 1 :: J, j < d ∧ rows.getD (off d c r j) [] = [] := fun j hj => by
          rcases List.mem_cons.1 hj with rfl | hj
          · exact ⟨by omega, hq1⟩
          · exact hJd j hj
        by_cases hp : pOf d c r rows = []
        · rw [if_pos hp]
          have := main (0 :: 1 :: J) (List.nodup_cons.2 ⟨fun h => by rcases List.mem_cons.1 h with h | h; omega; have := hJ2 0 h; omega, hJ1⟩) (fun j hj => by
            rcases List.mem_cons.1 hj with rfl | hj
            · exact ⟨by omega, hp⟩
            · exact hJ1d j hj)
          simp only [List.length_cons] at this
          omega
        · rw [if_neg hp]
          have := main _ hJ1 hJ1d
          simp only [List.length_cons] at this
          omega
      · rw [if_neg hq]
        by_cases hp : pOf d c r rows = []
        · rw [if_pos hp]
          have := main (0 :: J) (List.nodup_cons.2 ⟨fun h => by have := hJ2 0 h; omega, hJ⟩) (fun j hj => by
            rcases List.mem_cons.1 hj with rfl | hj
            · exact ⟨by omega, hp⟩
            · exact hJd j hj)
          simp only [List.length_cons] at this
          omega
        · rw [if_neg hp]
          have := main _ hJ hJd
          omega
    have := step1 _ hmap hge hKd
    rw [List.length_map] at this
    omega
/-- some disks' sectors missing -/
def Lost (d : Nat) (X rows : List (List Nat)) : Prop := rows.length = d ∧ ∀ i, i < d → rows.getD i [] = [] ∨ rows.getD i [] = X.getD i []
theorem Lost.refl {d : Nat} {X : List (List Nat)} (h : X.length = d) : Lost d X X := ⟨h, fun i _ => .inr rfl⟩
theorem Lost.set {d : Nat} {X rows : List (List Nat)} (h : Lost d X rows) (k : Nat) : Lost d X (rows.set k []) := by
  refine ⟨by rw [List.length_set]; exact h.1, fun i hi => ?_⟩
  rw [getD_set _ _ _ _ (by rw [h.1]; exact hi)]
  split
  · exact .inl rfl
  · exact h.2 i hi
theorem lost_take {l d c r : Nat} {data rows : List (List Nat)} (hok : okN l d c) (hw : data.length = d - (l - 4)) (h : Lost d (fillL l d c r data) rows) : SomeOf 32 data (takeL l d c r rows) := by
  have hok' := hok
  obtain ⟨h1, h2, h3⟩ := hok'
  refine ⟨by rw [takeL_len, hw], fun k hk => ?_⟩
  rw [takeL_get (by omega)]
  rcases h.2 (off d c r (l - 4 + k)) (off_lt (by omega)) with e | e
  · exact .inl e
  · right
    rw [e]
    have := takeL_get (d := d) (l := l) (c := c) (r := r) (rows := fillL l d c r data) (k := k) (by omega)
    rw [← this, take_fill hok hw]
theorem lost_p {l d c r : Nat} {data rows : List (List Nat)} (hok : okN l d c) (hw : data.length = d - (l - 4)) (h : Lost d (fillL l d c r data) rows) : pOf d c r rows = P data ∨ pOf d c r rows = [] := by
  have hok' := hok
  obtain ⟨h1, h2, h3⟩ := hok'
  rcases h.2 (off d c r 0) (off_lt (by omega)) with e | e
  · exact .inr e
  · left
    have := pOf_fill (r := r) hok hw
    unfold pOf at this ⊢
    rw [e, this]
theorem lost_q {l d c r : Nat} {data rows : List (List Nat)} (hok : okN l d c) (hw : data.length = d - (l - 4)) (h : Lost d (fillL l d c r data) rows) : qOf l d c r rows = Q data ∨ qOf l d c r rows = [] := by
  have hok' := hok
  obtain ⟨h1, h2, h3⟩ := hok'
  by_cases h6 : l = 6
  · rcases h.2 (off d c r 1) (off_lt (by omega)) with e | e
    · right; unfold qOf; rw [if_pos h6]; exact e
    · left
      have := qOf_fill (r := r) hok hw
      unfold qOf at this ⊢
      rw [if_pos h6] at this ⊢
      rw [e, this, if_pos h6]
  · right; unfold qOf; rw [if_neg h6]
/-- what is left tells the data, as long as no more are missing than may be -/
theorem take_back {l d c r : Nat} {data rows : List (List Nat)} (hok : okN l d c) (hw : data.length = d - (l - 4)) (h32 : ∀ p ∈ data, p.length = 32) (h8 : ∀ p ∈ data, ∀ x ∈ p, x < 256) (h : Lost d (fillL l d c r data) rows)
    (M : List Nat) (hM : ∀ i, i < d → rows.getD i [] = [] → i ∈ M) (hMl : M.length ≤ l - 4) :
    solveB ((32 : Nat) : Int) (pOf d c r rows) (qOf l d c r rows) (takeL l d c r rows) = true ∧ solveL 32 (pOf d c r rows) (qOf l d c r rows) (takeL l d c r rows) = data := by
  have hok' := hok
  obtain ⟨h1, h2, h3⟩ := hok'
  refine solve_back (lost_take hok hw h) h32 h8 (by omega) (by omega) (by decide) (lost_p hok hw h) (lost_q hok hw h) ?_
  have := miss_le (r := r) hok M hM
  split at this <;> omega
theorem fill_ne {l d c r : Nat} {data : List (List Nat)} (hok : okN l d c) (hw : data.length = d - (l - 4)) (h32 : ∀ p ∈ data, p.length = 32) {i : Nat} (hi : i < d) : (fillL l d c r data).getD i [] ≠ [] := fun e => by
  have := getD_len (fillL_32 (r := r) hok hw h32) (k := i) (by rw [fillL_len]; exact hi)
  rw [e] at this
  simp at this
end Go.Proofs.Ytknodcaknopcnaa.Y
