/- Two parts put away and told again, plainly. -/
import Derived.Test.YtknodcaknopcnaaEra
namespace Go.Proofs.Ytknodcaknopcnaa.Y
open G
set_option linter.unusedVariables false

theorem miss_two {xs : List (List Nat)} {n a b : Nat} (h : ∀ p ∈ xs, p.length = n) (hn : 0 < n) (ha : a < xs.length) (hb : b < xs.length) (hne : a ≠ b) :
    missL ((xs.set a []).set b []) = [a, b] ∨ missL ((xs.set a []).set b []) = [b, a] := by
  obtain ⟨M, hM⟩ : ∃ M, M = missL ((xs.set a []).set b []) := ⟨_, rfl⟩
  have hnd := miss_nodup ((xs.set a []).set b [])
  have hmem : ∀ i, i ∈ M ↔ i = a ∨ i = b := by
    intro i
    rw [hM, miss_mem]
    constructor
    · rintro ⟨h1, h2⟩
      have h1' : i < xs.length := by simpa using h1
      rw [getD_set _ _ _ _ (by simpa using h1), getD_set _ _ _ _ h1'] at h2
      by_cases e1 : b = i
      · exact .inr e1.symm
      · rw [if_neg e1] at h2
        by_cases e2 : a = i
        · exact .inl e2.symm
        · rw [if_neg e2] at h2
          have := getD_len h h1'
          rw [h2] at this
          simp at this
          omega
    · rintro (rfl | rfl)
      · refine ⟨by simpa using ha, ?_⟩
        rw [getD_set _ _ _ _ (by simpa using ha), getD_set _ _ _ _ ha, if_pos rfl]
        split <;> rfl
      · refine ⟨by simpa using hb, ?_⟩
        rw [getD_set _ _ _ _ (by simpa using hb), if_pos rfl]
  rw [← hM] at hnd ⊢
  clear hM
  match M with
  | [] => exact absurd ((hmem a).2 (.inl rfl)) (by simp)
  | [x] =>
    have h1 := (hmem a).2 (.inl rfl)
    have h2 := (hmem b).2 (.inr rfl)
    simp at h1 h2
    omega
  | [x, y] =>
    have h1 := (hmem x).1 (by simp)
    have h2 := (hmem y).1 (by simp)
    have h3 : x ≠ y := by simpa using hnd
    rcases h1 with rfl | rfl <;> rcases h2 with rfl | rfl
    · exact absurd rfl h3
    · exact .inl rfl
    · exact .inr rfl
    · exact absurd rfl h3
  | x :: y :: z :: t =>
    have h1 := (hmem x).1 (by simp)
    have h2 := (hmem y).1 (by simp)
    have h3 := (hmem z).1 (by simp)
    have h4 : x ≠ y ∧ x ≠ z ∧ y ≠ z := by
      simp only [List.nodup_cons, List.mem_cons, not_or] at hnd
      exact ⟨hnd.1.1, hnd.1.2.1, hnd.2.1.1⟩
    omega
theorem two_law {xs : List (List Nat)} {n a b : Nat} {p q : List Nat} (h : ∀ r ∈ xs, r.length = n) (hn : 0 < n) (h8 : xs.length ≤ 8) (hx8 : ∀ r ∈ xs, ∀ v ∈ r, v < 256) (ha : a < xs.length) (hb : b < xs.length) (hne : a ≠ b)
    (hp : p.length = n) (hq : q.length = n) (hp8 : ∀ v ∈ p, v < 256) (hq8 : ∀ v ∈ q, v < 256) :
    solveB (n : Int) p q ((xs.set a []).set b []) = true ∧ (solveL n p q ((xs.set a []).set b [])).length = xs.length ∧ (∀ r ∈ solveL n p q ((xs.set a []).set b []), r.length = n)
      ∧ (∀ i, i < xs.length → i ≠ a → i ≠ b → (solveL n p q ((xs.set a []).set b [])).getD i [] = xs.getD i []) ∧ P (solveL n p q ((xs.set a []).set b [])) = p ∧ Q (solveL n p q ((xs.set a []).set b [])) = q := by
  have hs : SomeOf n xs ((xs.set a []).set b []) := by
    refine ⟨by simp, fun i hi => ?_⟩
    rw [getD_set _ _ _ _ (by simpa using hi), getD_set _ _ _ _ hi]
    split
    · exact .inl rfl
    · split
      · exact .inl rfl
      · exact .inr rfl
  have hpn : p ≠ [] := fun e => by rw [e] at hp; simp at hp; omega
  have hqn : q ≠ [] := fun e => by rw [e] at hq; simp at hq; omega
  have hfit : fitsB n ((xs.set a []).set b []) = true := by
    unfold fitsB
    rw [List.all_eq_true]
    intro r hr
    rw [decide_eq_true_iff]
    rcases List.mem_or_eq_of_mem_set hr with h1 | h1
    · rcases List.mem_or_eq_of_mem_set h1 with h2 | h2
      · right; rw [h r h2]
      · left; rw [h2]; rfl
    · left; rw [h1]; rfl
  have hfit2 : fitsB n [p, q] = true := by
    unfold fitsB
    simp [hp, hq]
  have hm2 : (missL [p, q]).length = 0 := by
    unfold missL
    show ((List.range 2).filter _).length = _
    rw [show List.range 2 = [0, 1] from rfl]
    simp [List.filter, hpn, hqn]
  have hO := hs.out_len h
  have hOl : (((xs.set a []).set b []).map (fz n)).length = xs.length := by simp
  have hOb : ∀ r ∈ ((xs.set a []).set b []).map (fz n), ∀ v ∈ r, v < 256 := by
    intro r hr v hv
    obtain ⟨s, hs', rfl⟩ := List.mem_map.1 hr
    unfold fz at hv
    rcases List.mem_append.1 hv with h1 | h1
    · rcases List.mem_or_eq_of_mem_set hs' with h2 | h2
      · rcases List.mem_or_eq_of_mem_set h2 with h3 | h3
        · exact hx8 _ h3 _ h1
        · rw [h3] at h1; cases h1
      · rw [h2] at h1; cases h1
    · rw [List.eq_of_mem_replicate h1]; decide
  have main : ∀ j k, missL ((xs.set a []).set b []) = [j, k] → (j = a ∧ k = b ∨ j = b ∧ k = a) → (solveL n p q ((xs.set a []).set b [])).length = xs.length ∧ (∀ r ∈ solveL n p q ((xs.set a []).set b []), r.length = n)
      ∧ (∀ i, i < xs.length → i ≠ a → i ≠ b → (solveL n p q ((xs.set a []).set b [])).getD i [] = xs.getD i []) ∧ P (solveL n p q ((xs.set a []).set b [])) = p ∧ Q (solveL n p q ((xs.set a []).set b [])) = q := by
    intro j k hm hjk
    have hj := hs.gone (i := j) (by rw [hm]; simp)
    have hk := hs.gone (i := k) (by rw [hm]; simp)
    have hjk' : j ≠ k := by rcases hjk with ⟨rfl, rfl⟩ | ⟨rfl, rfl⟩; exact hne; exact Ne.symm hne
    have e : solveL n p q ((xs.set a []).set b []) = ((((xs.set a []).set b []).map (fz n)).set j (twoX p q (((xs.set a []).set b []).map (fz n)) j k)).set k (twoY p q (((xs.set a []).set b []).map (fz n)) j k) := by
      unfold solveL; rw [hm]; rfl
    rw [e]
    refine ⟨by simp, set_mem (set_mem hO (twoX_len hp hq hO (by omega) j k)) (twoY_len hp hq hO (by omega) j k), fun i hi ia ib => ?_, two_sum hp hq hO hp8 hq8 hOb (by rw [hOl]; exact hj.1) (by rw [hOl]; exact hk.1) hjk' (by rw [hOl]; omega) hj.2 hk.2⟩
    rw [getD_set _ _ _ _ (by simpa using hi), getD_set _ _ _ _ (by simpa using hi), if_neg (by omega), if_neg (by omega)]
    exact hs.there h hi (by rw [hm]; simp; omega)
  have hm := miss_two h hn ha hb hne
  refine ⟨?_, ?_⟩
  · unfold solveB
    rw [hfit, hfit2, Bool.and_eq_true, Bool.and_eq_true, Bool.and_eq_true, decide_eq_true_iff, decide_eq_true_iff]
    refine ⟨⟨⟨⟨by omega, by simp; omega, by simp; omega⟩, rfl⟩, rfl⟩, ?_⟩
    rw [hm2]
    rcases hm with hm | hm <;> rw [hm] <;> simp
  · rcases hm with hm | hm
    · exact main _ _ hm (.inl ⟨rfl, rfl⟩)
    · exact main _ _ hm (.inr ⟨rfl, rfl⟩)
end Go.Proofs.Ytknodcaknopcnaa.Y
