/- What stands behind a Put on a fresh bench; one row cut short. -/
import Derived.Test.YtenjpldinnbcbaaBkM
namespace Go.Proofs.Ytenjpldinnbcbaa
open Go.RowKit
set_option linter.unusedVariables false
set_option linter.unusedSimpArgs false
set_option maxRecDepth 100000
namespace B
theorem put_pend {b : Bn} {lv : List Bool} {e x : Nat} {data : List (List Nat)} (h : Up b) (hd : ∀ p ∈ data, p.length = 32) (h8 : ∀ p ∈ data, ∀ y ∈ p, y < 256) (hn : data.length ≤ 28) (hp : ∀ d ∈ b.ds, d.p.length = 0) : pending (putB b lv (headL e x data :: data)) = 0 := by
  obtain ⟨a1, a2⟩ := put_all (e := e) (x := x) hd h8
  have h52 : 6 + (headL e x data :: data).length ≤ 52 := by simp; omega
  obtain ⟨u, e1, e2, e3⟩ := putW_spec h lv a1 a2 h52 b.ds.length (Nat.le_refl _)
  obtain ⟨f1, f2, f3, f4⟩ := flW_spec u lv b.ds.length (by rw [e2]; exact Nat.le_refl _)
  unfold pending
  have key : ∀ d ∈ (putB b lv (headL e x data :: data)).ds, d.p.length = 0 := by
    intro d hd'
    have hd2 : d ∈ (flW (putW b lv (headL e x data :: data) b.ds.length) lv b.ds.length).ds := hd'
    obtain ⟨i, hi, ee⟩ := List.getElem_of_mem hd2
    rw [f3, e2] at hi
    have hg : (flW (putW b lv (headL e x data :: data) b.ds.length) lv b.ds.length).ds.getD i D.blank = d := by
      rw [← ee]; simp [List.getD, f3, e2, hi]
    rw [← hg, f4]
    by_cases hl : live1 lv i = true
    · rw [if_pos ⟨hi, hl⟩]; rfl
    · rw [if_neg (fun h => hl h.2), e3, if_neg (fun h => hl h.2)]
      rw [show b.ds.getD i D.blank = b.ds[i] by simp [List.getD, hi]]
      exact hp _ (List.getElem_mem hi)
  have : ∀ l : List D.Dk, (∀ d ∈ l, d.p.length = 0) → (l.map (fun d => d.p.length)).sum = 0 := by
    intro l
    induction l with
    | nil => intro _; rfl
    | cons d l ih => intro h; rw [List.map_cons, List.sum_cons, ih (fun d hd => h d (List.mem_cons_of_mem _ hd)), h d (List.mem_cons_self ..)]
  exact this _ key
theorem fresh_pend (n : Nat) : pending (fresh n) = 0 := by
  unfold pending fresh
  simp [D.blank]
/-- on a fresh bench: found on a live one, under its own name alone -/
theorem put_fresh_yes {lv : List Bool} {e x n : Nat} {data : List (List Nat)} (hd : ∀ p ∈ data, p.length = 32) (h8 : ∀ p ∈ data, ∀ y ∈ p, y < 256) (hn : data.length ≤ 28) (he : e < 65536) (hx : x ≤ 16) {i : Nat} (hi : i < n) (hl : live1 lv i = true) (hmin : ∀ j, j < i → live1 lv j = false) :
    getO (putB (fresh n) lv (headL e x data :: data)) lv e x n = some i ∧ ofL (putB (fresh n) lv (headL e x data :: data)) i = data := by
  have hlive := put_live (lv := lv) (i := i) (e := e) (x := x) (Up.fresh n) hd h8 hn (by rw [fresh_len]; exact hi) hl
  exact ⟨getO_some hi hl hlive.2.2.2 (fun j hj => by rw [hmin j hj]; rfl), hlive.2.2.1⟩
theorem put_fresh_no {lv : List Bool} {e x n : Nat} {data : List (List Nat)} (hmin : ∀ j, j < n → live1 lv j = false) : getO (putB (fresh n) lv (headL e x data :: data)) lv e x n = none :=
  getO_none n fun j hj => by rw [hmin j hj]; rfl
theorem put_fresh_other {lv : List Bool} {e x n : Nat} {data : List (List Nat)} (hd : ∀ p ∈ data, p.length = 32) (h8 : ∀ p ∈ data, ∀ y ∈ p, y < 256) (hn : data.length ≤ 28) (he : e < 65536) (hx : x ≤ 16) {e' x' : Nat} (he' : e' < 65536) (hx' : x' ≤ 16) (hne : ¬ (e = e' ∧ x = x')) :
    getO (putB (fresh n) lv (headL e x data :: data)) lv e' x' n = none :=
  getO_none n fun j hj => by
    by_cases hl : live1 lv j = true
    · rw [put_other (Up.fresh n) hd h8 hn (by rw [fresh_len]; exact hj) hl he hx he' hx' hne]; simp
    · rw [show live1 lv j = false by simpa using hl]; rfl
theorem getO_fresh (lv : List Bool) (e x n m : Nat) : getO (fresh n) lv e x m = none := getO_none m fun i hi => by rw [ofOk_zero (fresh_look n i 6 (by decide))]; simp
end B
end Go.Proofs.Ytenjpldinnbcbaa
