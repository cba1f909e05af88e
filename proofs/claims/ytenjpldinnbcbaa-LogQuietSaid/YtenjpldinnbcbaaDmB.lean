/- A bench's Damage. -/
import Derived.Test.YtenjpldinnbcbaaSlS
import Derived.Test.YtenjpldinnbcbaaBen
import Derived.Test.YtenjpldinnbcbaaPlay
import Derived.Test.YtenjpldinnbcbaaDsk
namespace Go.Proofs.Ytenjpldinnbcbaa
open Go.RowKit
set_option linter.unusedVariables false
set_option linter.unusedSimpArgs false
set_option maxRecDepth 100000
set_option maxHeartbeats 1000000
namespace D
theorem fold_skip (p : List (Nat × List Nat)) {a c : Nat} (h : c ≠ a) : ∀ z, (p.filter (fun w => w.1 ≠ a)).foldl (fun b w => if w.1 = c then w.2 else b) z = p.foldl (fun b w => if w.1 = c then w.2 else b) z := by
  induction p with
  | nil => intro z; rfl
  | cons w p ih =>
    intro z
    rw [List.filter_cons, List.foldl_cons]
    by_cases hw : w.1 = a
    · rw [if_neg (by simp [hw]), if_neg (fun e => h (by rw [← e, hw]))]; exact ih z
    · rw [if_pos (by simp [hw]), List.foldl_cons]; exact ih _
theorem fold_none (p : List (Nat × List Nat)) (a : Nat) : ∀ z, (p.filter (fun w => w.1 ≠ a)).foldl (fun b w => if w.1 = a then w.2 else b) z = z := by
  induction p with
  | nil => intro z; rfl
  | cons w p ih =>
    intro z
    rw [List.filter_cons]
    by_cases hw : w.1 = a
    · rw [if_neg (by simp [hw])]; exact ih z
    · rw [if_pos (by simp [hw]), List.foldl_cons, if_neg hw]; exact ih z
theorem look_damage {d : Dk} (h : Ok d) {a c : Nat} (ha : a < 52) (x : List Nat) : look (damage d a x) c = if c = a then x else look d c := by
  show ((d.p.filter (fun w => w.1 ≠ a)).foldl (fun b w => if w.1 = c then w.2 else b) ((d.l.set a x).getD c [])) = _
  by_cases hc : c = a
  · subst hc
    rw [if_pos rfl, fold_none]
    rw [List.getD_eq_getElem?_getD, List.getElem?_set_self (by rw [h.len]; exact ha)]; rfl
  · rw [if_neg hc, fold_skip _ hc]
    unfold look
    rw [List.getD_eq_getElem?_getD, List.getElem?_set_ne (fun e => hc e.symm), ← List.getD_eq_getElem?_getD]
theorem damage_p (d : Dk) (a : Nat) (x : List Nat) : (damage d a x).p.length ≤ d.p.length := List.length_filter_le _ _
end D
namespace B
def dmgB (b : Bn) (i a : Nat) (x : List Nat) : Bn := { b with ds := b.ds.set i (D.hurt (dk b (i : Int)) (a : Int) x) }
theorem hurt_eq {d : D.Dk} {a : Nat} {x : List Nat} (ha : a < 52) (hx : x.length = 32) : D.hurt d (a : Int) x = if d.f then d else D.damage d a x := by
  unfold D.hurt
  cases hf : d.f with
  | true => rw [if_neg (show ¬ putI d (a : Int) x = 0 by unfold putI D.may; rw [hf, if_pos rfl, if_pos (by decide)]; decide), if_pos rfl]
  | false => rw [if_pos (put_ok hf ha hx), if_neg (by decide)]; rfl
theorem dmg_spec {b : Bn} (h : Pw b) {i a : Nat} {x : List Nat} (hi : i < b.ds.length) (ha : a < 52) (hx : x.length = 32) (h8 : ∀ y ∈ x, y < 256) :
    Pw (dmgB b i a x) ∧ (dmgB b i a x).writes = b.writes ∧ (dmgB b i a x).ds.length = b.ds.length ∧ (∀ j, failB (dmgB b i a x) j = failB b j) ∧
    (∀ j c, lookB (dmgB b i a x) j c = if j = i ∧ failB b i = false ∧ c = a then x else lookB b j c) ∧ ∀ j, (at1 (dmgB b i a x) j).p.length ≤ (at1 b j).p.length := by
  have hdk : dk b (i : Int) = at1 b i := by rw [at1_eq hi]; exact dk_nat (List.getElem?_eq_getElem hi)
  have hok : D.Ok (at1 b i) := by rw [at1_eq hi]; exact h.ok _ (List.getElem_mem hi)
  have hat : ∀ j, at1 (dmgB b i a x) j = if j = i then (if (at1 b i).f then at1 b i else D.damage (at1 b i) a x) else at1 b j := fun j => by
    have := at1_set (b := b) (i := j) (d := D.hurt (dk b (i : Int)) (a : Int) x) hi b.writes
    rw [show at1 (dmgB b i a x) j = _ from this, hdk, hurt_eq ha hx]
  refine ⟨⟨h.down, h.left, fun d hd => ?_⟩, rfl, by show (b.ds.set _ _).length = _; rw [List.length_set], fun j => ?_, fun j c => ?_, fun j => ?_⟩
  · rcases List.mem_or_eq_of_mem_set hd with h1 | h1
    · exact h.ok d h1
    · rw [h1, hdk, hurt_eq ha hx]
      split
      · exact hok
      · exact D.damage_ok hok hx h8
  · show (at1 _ j).f = (at1 b j).f
    rw [hat]
    by_cases hj : j = i
    · subst hj; rw [if_pos rfl]; split <;> rfl
    · rw [if_neg hj]
  · show D.look (at1 _ j) c = if _ then x else D.look (at1 b j) c
    rw [hat]
    by_cases hj : j = i
    · subst hj
      rw [if_pos rfl]
      have hff : failB b j = (at1 b j).f := rfl
      rw [hff]
      cases hf : (at1 b j).f with
      | true => rw [if_pos rfl, if_neg (fun h => by cases h.2.1)]
      | false =>
        rw [if_neg (by decide), D.look_damage hok ha]
        by_cases hc : c = a
        · rw [if_pos hc, if_pos ⟨rfl, rfl, hc⟩]
        · rw [if_neg hc, if_neg (fun h => hc h.2.2)]
    · rw [if_neg hj, if_neg (fun h => hj h.1)]
  · rw [hat]
    by_cases hj : j = i
    · subst hj
      rw [if_pos rfl]
      split
      · exact Nat.le_refl _
      · exact D.damage_p _ _ _
    · rw [if_neg hj]; exact Nat.le_refl _
end B
attribute [local irreducible] Go.Calls Byt Own Parts
theorem bdmg_any (w : World) (base g : Nat) (lv : Value) (hs : List (Nat × Value)) (b : B.Bn) (i a : Nat) (bv : Value) (x : List Nat) (h : IsBench w base g lv hs b) (hi : i < b.ds.length) (hx : Byt w bv x) (hb0 : base ≤ w.heap.size) (hp : ∀ d ∈ b.ds, d.p.length ≤ 1000000) :
    Calls Try.prog 43 #[.pointer (some ⟨g, 0, none⟩), .int .i64 (i : Int), .int .i64 (a : Int), bv] w fun e w' => (∃ er, e = .returned (.int .i64 er)) ∧ ∃ hs', IsBench w' base g lv hs' (B.dmgB b i a x) ∧ Fr (ofB g lv hs) w w' ∧ ∀ y, ofB g lv hs' y → ofB g lv hs y ∨ w.heap.size ≤ y := by
  have HC := bis_any w base g lv hs b (i : Int) h
  rw [show B.is b (i : Int) = true from decide_eq_true ⟨by omega, by omega⟩] at HC
  have HC := Lib.hid HC
  have hc := h.cell.2.2.2
  obtain ⟨ao, cap, rfl, hcap, _⟩ := h.shape
  obtain ⟨bl, k, d, rfl, hcell, hk, hdk, hD⟩ := h.get (i := i) hi
  unfold B.dmgB
  rw [B.dk_nat hdk]
  have HH := Lib.hid h
  have HK := Lib.hid hk
  have hfl := dmgA w _ _ _ _ (a : Int) bv x hD hx hb0 (by have := hp d (List.mem_of_getElem? hdk); omega)
  obtain ⟨m, hm⟩ : ∃ m : Int, m = putI d (a : Int) x := ⟨_, rfl⟩
  rw [← hm] at hfl
  have HFL := Lib.hid hfl
  obtain ⟨d', hd'⟩ : ∃ d', d' = D.hurt d (a : Int) x := ⟨_, rfl⟩
  rw [← hd'] at HFL ⊢
  clear h hk hdk hD hm hfl hx hp hd'
  go_enter Try.func43, Try.ntmps43
  go_wp2_with fail
  refine Calls.mono HC.out ?_
  rintro e w1 ⟨rfl, rfl⟩
  go_wp2_with fail
  refine Calls.mono HFL.out ?_
  rintro e w2 ⟨rfl, pv2, D2, F2, p2⟩
  obtain ⟨H4, G4, q4⟩ := HH.out.setDisk HK.out F2 D2 p2
  go_wp2
  go_ret
  exact ⟨⟨_, rfl⟩, _, H4, G4, q4⟩
end Go.Proofs.Ytenjpldinnbcbaa
