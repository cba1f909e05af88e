/- Plain law of SlotsTurns. -/
import Derived.Test.YtenjpldinnbcbaaSlE
import Derived.Test.YtenjpldinnbcbaaSlD
namespace Go.Proofs.Ytenjpldinnbcbaa
open Go.RowKit C
set_option linter.unusedVariables false
set_option linter.unusedSimpArgs false
set_option maxRecDepth 100000
set_option maxHeartbeats 1000000

namespace B
theorem newer_best {s : Sup} : ∀ {l : List Sup} {z : Sup}, (∀ p ∈ l, p = s ∨ p.gen < s.gen) → (z = s ∨ z.gen < s.gen) → (newer z l = s ∨ (newer z l).gen < s.gen) ∧ (z = s ∨ s ∈ l → newer z l = s) := by
  intro l
  induction l with
  | nil => intro z _ hz; exact ⟨hz, fun h => h.elim id (fun h => by cases h)⟩
  | cons p l ih =>
    intro z hl hz
    have hp := hl p (List.mem_cons_self ..)
    have hl' : ∀ q ∈ l, q = s ∨ q.gen < s.gen := fun q hq => hl q (List.mem_cons_of_mem _ hq)
    have hz' : (if z.gen < p.gen then p else z) = s ∨ (if z.gen < p.gen then p else z).gen < s.gen := by split <;> assumption
    obtain ⟨i1, i2⟩ := ih hl' hz'
    refine ⟨i1, fun h => ?_⟩
    show newer (if z.gen < p.gen then p else z) l = s
    rcases h with h | h
    · refine i2 (.inl ?_)
      rcases hp with hp | hp
      · rw [hp, h]; split <;> rfl
      · rw [h, if_neg (by omega)]
    · rcases List.mem_cons.1 h with h | h
      · refine i2 (.inl ?_)
        rcases hz with hz | hz
        · rw [← h, hz]; split <;> rfl
        · rw [← h, if_pos hz]
      · exact i2 (.inr h)
theorem best_is {b : Bn} {s : Sup} (hg : 0 < s.gen) : ∀ n, (∀ i, i < n → ∀ p ∈ sups b i, p = s ∨ p.gen < s.gen) → (bestN b n = s ∨ (bestN b n).gen < s.gen) ∧ ((∃ i, i < n ∧ s ∈ sups b i) → bestN b n = s) := by
  intro n
  induction n with
  | zero => intro _; exact ⟨.inr hg, fun ⟨i, hi, _⟩ => by omega⟩
  | succ n ih =>
    intro h
    obtain ⟨i1, i2⟩ := ih (fun i hi => h i (by omega))
    obtain ⟨j1, j2⟩ := newer_best (h n (by omega)) i1
    refine ⟨j1, fun ⟨i, hi, hm⟩ => ?_⟩
    by_cases hin : i = n
    · subst hin; exact j2 (.inr hm)
    · exact j2 (.inl (i2 ⟨i, by omega, hm⟩))
theorem mem_sups {b : Bn} {i c : Nat} {s : Sup} (hc : c < 2) (h : s ∈ supAt b i c) : s ∈ sups b i := by
  have : c = 0 ∨ c = 1 := by omega
  rcases this with rfl | rfl
  · exact List.mem_append_left _ h
  · exact List.mem_append_right _ h
theorem sups_mem {b : Bn} {i : Nat} {s : Sup} (h : s ∈ sups b i) : ∃ c, c < 2 ∧ s ∈ supAt b i c := by
  rcases List.mem_append.1 h with h | h
  · exact ⟨0, by decide, h⟩
  · exact ⟨1, by decide, h⟩
theorem near_yes {b : Bn} {i c : Nat} {s p : Sup} (hc : c < 2) (h : p ∈ supAt b i c) (hg : s.gen - 1 ≤ p.gen) : nearB s (sups b i) = true := by
  unfold nearB
  rw [List.any_eq_true]
  exact ⟨p, mem_sups hc h, decide_eq_true hg⟩
end B
/-- Supers of rising generations -/
structure Gens (F : Nat → Sup) : Prop where
  ok : ∀ g, 1 ≤ g → g ≤ 100 → (F g).ok = true
  gen : ∀ g, 1 ≤ g → g ≤ 100 → (F g).gen = (g : Int)
theorem Gens.slot {F : Nat → Sup} (h : Gens F) {g : Nat} (h1 : 1 ≤ g) (h2 : g ≤ 100) : slotN (F g) = g % 2 := by
  unfold slotN
  rw [h.gen g h1 h2]
  have : ((g : Int)).tmod 2 = ((g % 2 : Nat) : Int) := rfl
  rw [this]
  split <;> omega
/-- the bench behind g rounds; those of the disks that are spoilt have nothing in the newest's slot -/
structure TI (F : Nat → Sup) (c : B.Bn) (g : Nat) (X : Nat → Bool) : Prop where
  pw : B.Pw c
  len : c.ds.length = 3
  p : ∀ d ∈ c.ds, d.p.length ≤ 1000000
  w : 0 ≤ c.writes ∧ c.writes ≤ 100 * (g : Int)
  f : ∀ d, d < 3 → B.failB c d = false
  new : ∀ d, d < 3 → B.supAt c d (g % 2) = if 1 ≤ g ∧ X d = false then [F g] else []
  old : ∀ d, d < 3 → B.supAt c d ((g + 1) % 2) = if 2 ≤ g then [F (g - 1)] else []
theorem TI.zero (F : Nat → Sup) : TI F (B.fresh 3) 0 (fun _ => false) where
  pw := (B.Up.fresh 3).pw
  len := B.fresh_len 3
  p := B.fresh_p 3
  w := ⟨Int.le_refl _, Int.le_refl _⟩
  f := fun d _ => B.fresh_failB 3 d
  new := fun d _ => by rw [B.supAt_zeros (B.fresh_look 3 d _ (by decide)), if_neg (by omega)]
  old := fun d _ => by rw [B.supAt_zeros (B.fresh_look 3 d _ (by decide)), if_neg (by omega)]
theorem ps_le {b c : B.Bn} (hl : c.ds.length = b.ds.length) (h : ∀ i, i < b.ds.length → (B.at1 c i).p.length ≤ (B.at1 b i).p.length) {P : Nat} (hb : ∀ d ∈ b.ds, d.p.length ≤ P) : ∀ d ∈ c.ds, d.p.length ≤ P := fun d hd => by
  obtain ⟨i, hi, rfl⟩ := List.getElem_of_mem hd
  have hi3 : i < b.ds.length := by rw [← hl]; exact hi
  have := h i hi3
  rw [B.at1_eq hi, B.at1_eq hi3] at this
  have := hb _ (List.getElem_mem hi3)
  omega
theorem TI.step {F : Nat → Sup} (hF : Gens F) {c : B.Bn} {g : Nat} (h : TI F c g (fun _ => false)) (hg : g + 1 ≤ 100) : TI F (B.storeB c [true, true, true] ((g + 1) % 2) (F (g + 1)).enc) (g + 1) (fun _ => false) := by
  have hok := hF.ok (g + 1) (by omega) hg
  have hsl := hF.slot (g := g + 1) (by omega) hg
  obtain ⟨u1, w1, l1, f1, k1, p1⟩ := B.store_spec h.pw [true, true, true] (a := (g + 1) % 2) (by omega) (x := (F (g + 1)).enc) (F (g + 1)).enc_len (F (g + 1)).enc_byte
  have hcn := B.cntS_le c [true, true, true] c.ds.length
  have hl := h.len
  have hw := h.w
  have hlv : ∀ d, d < 3 → B.live1 [true, true, true] d = true := fun d hd => by
    have : d = 0 ∨ d = 1 ∨ d = 2 := by omega
    rcases this with rfl | rfl | rfl <;> rfl
  have hs : ∀ d cc, d < 3 → cc < 2 → B.supAt (B.storeB c [true, true, true] ((g + 1) % 2) (F (g + 1)).enc) d cc = if cc = (g + 1) % 2 then [F (g + 1)] else B.supAt c d cc := fun d cc hd hc => by
    have := B.supAt_store h.pw [true, true, true] hok (i := d) (c := cc) (by rw [hl]; exact hd) hc (h.f d hd)
    rw [hsl] at this
    rw [this]
    by_cases hq : cc = (g + 1) % 2
    · rw [if_pos ⟨hlv d hd, hq⟩, if_pos hq]
    · rw [if_neg (fun h => hq h.2), if_neg hq]
  refine ⟨u1, l1.trans hl, ps_le l1 p1 h.p, by rw [w1]; omega, fun d hd => by rw [f1 d (by rw [hl]; exact hd)]; exact h.f d hd, fun d hd => ?_, fun d hd => ?_⟩
  · rw [hs d _ hd (by omega), if_pos rfl, if_pos ⟨by omega, rfl⟩]
  · rw [hs d _ hd (by omega), if_neg (by omega), show (g + 1 + 1) % 2 = g % 2 by omega, h.new d hd, show g + 1 - 1 = g by omega]
    by_cases h1 : 1 ≤ g
    · rw [if_pos ⟨h1, rfl⟩, if_pos (by omega)]
    · rw [if_neg (fun h => h1 h.1), if_neg (by omega)]
theorem TI.spoil {F : Nat → Sup} {c : B.Bn} {g : Nat} {X : Nat → Bool} (h : TI F c g X) {d : Nat} (hd : d < 3) (n : Int) : TI F (B.dmgB c d (g % 2) (secL n)) g (fun j => X j || decide (j = d)) := by
  have hl := h.len
  obtain ⟨u1, w1, l1, f1, k1, p1⟩ := B.dmg_spec h.pw (i := d) (a := g % 2) (by rw [hl]; exact hd) (by omega) (secL_len n) (secL_byte n)
  refine ⟨u1, l1.trans hl, ps_le l1 (fun i _ => p1 i) h.p, by rw [w1]; exact h.w, fun j hj => by rw [f1]; exact h.f j hj, fun j hj => ?_, fun j hj => ?_⟩
  · by_cases hjd : j = d
    · subst hjd
      rw [supAt_sec (n := n) (by rw [k1, if_pos ⟨rfl, h.f _ hd, rfl⟩]), if_neg (by simp)]
    · have e : B.supAt (B.dmgB c d (g % 2) (secL n)) j (g % 2) = B.supAt c j (g % 2) := by
        have e2 : B.lookB (B.dmgB c d (g % 2) (secL n)) j (g % 2) = B.lookB c j (g % 2) := by rw [k1, if_neg (fun h => hjd h.1)]
        unfold B.supAt
        rw [f1, e2]
      rw [e, h.new j hj]
      simp [hjd]
  · have e : B.supAt (B.dmgB c d (g % 2) (secL n)) j ((g + 1) % 2) = B.supAt c j ((g + 1) % 2) := by
      have e2 : B.lookB (B.dmgB c d (g % 2) (secL n)) j ((g + 1) % 2) = B.lookB c j ((g + 1) % 2) := by rw [k1, if_neg (fun h => by omega)]
      unfold B.supAt
      rw [f1, e2]
    rw [e, h.old j hj]
theorem TI.sups {F : Nat → Sup} {c : B.Bn} {g : Nat} {X : Nat → Bool} (h : TI F c g X) {d : Nat} (hd : d < 3) {p : Sup} (hp : p ∈ B.sups c d) : (1 ≤ g ∧ X d = false ∧ p = F g) ∨ (2 ≤ g ∧ p = F (g - 1)) := by
  obtain ⟨cc, hc, hm⟩ := B.sups_mem hp
  by_cases hq : cc = g % 2
  · subst hq
    rw [h.new d hd] at hm
    split at hm
    · rename_i h1; exact .inl ⟨h1.1, h1.2, by simpa using hm⟩
    · cases hm
  · have : cc = (g + 1) % 2 := by omega
    subst this
    rw [h.old d hd] at hm
    split at hm
    · rename_i h1; exact .inr ⟨h1, by simpa using hm⟩
    · cases hm
/-- the newest is found where it is not spoilt everywhere -/
theorem TI.best {F : Nat → Sup} (hF : Gens F) {c : B.Bn} {g : Nat} {X : Nat → Bool} (h : TI F c g X) (h1 : 1 ≤ g) (hg : g ≤ 100) {d : Nat} (hd : d < 3) (hX : X d = false) : B.bestN c c.ds.length = F g := by
  have hgg := hF.gen g h1 hg
  rw [h.len]
  refine (B.best_is (s := F g) (by rw [hgg]; omega) 3 (fun i hi p hp => ?_)).2 ⟨d, hd, B.mem_sups (c := g % 2) (by omega) (by rw [h.new d hd, if_pos ⟨h1, hX⟩]; exact List.mem_singleton.2 rfl)⟩
  rcases h.sups hi hp with ⟨_, _, e⟩ | ⟨h2, e⟩
  · exact .inl e
  · refine .inr ?_
    rw [e, hgg, hF.gen (g - 1) (by omega) (by omega)]
    omega
theorem TI.best_old {F : Nat → Sup} (hF : Gens F) {c : B.Bn} {g : Nat} {X : Nat → Bool} (h : TI F c g X) (h1 : 2 ≤ g) (hg : g ≤ 100) (hX : ∀ d, d < 3 → X d = true) : B.bestN c c.ds.length = F (g - 1) := by
  have hgg := hF.gen (g - 1) (by omega) (by omega)
  rw [h.len]
  refine (B.best_is (s := F (g - 1)) (by rw [hgg]; omega) 3 (fun i hi p hp => ?_)).2 ⟨0, by decide, B.mem_sups (c := (g + 1) % 2) (by omega) (by rw [h.old 0 (by decide), if_pos h1]; exact List.mem_singleton.2 rfl)⟩
  rcases h.sups hi hp with ⟨_, hx, e⟩ | ⟨h2, e⟩
  · rw [hX i hi] at hx; cases hx
  · exact .inl e
theorem TI.near {F : Nat → Sup} (hF : Gens F) {c : B.Bn} {g : Nat} {X : Nat → Bool} (h : TI F c g X) (h1 : 2 ≤ g) (hg : g ≤ 100) {s : Sup} (hs : s.gen ≤ (g : Int)) : (List.range c.ds.length).map (fun d => B.nearB s (B.sups c d)) = [true, true, true] := by
  rw [h.len]
  have k : ∀ d, d < 3 → B.nearB s (B.sups c d) = true := fun d hd => B.near_yes (c := (g + 1) % 2) (p := F (g - 1)) (by omega) (by rw [h.old d hd, if_pos h1]; exact List.mem_singleton.2 rfl) (by rw [hF.gen (g - 1) (by omega) (by omega)]; omega)
  show [B.nearB s _, B.nearB s _, B.nearB s _] = _
  rw [k 0 (by decide), k 1 (by decide), k 2 (by decide)]
/-- the disks that are spoilt, in the midst -/
def XsF (all : Bool) (k j d : Nat) : Bool := decide (d < j) && (all || decide (d = k))
theorem XsF_zero (all : Bool) (k : Nat) : XsF all k 0 = fun _ => false := by funext d; unfold XsF; simp
theorem XsF_no {all : Bool} {k j : Nat} (h : (all || decide (j = k)) = false) : XsF all k (j + 1) = XsF all k j := by
  funext d
  unfold XsF
  by_cases hd : d = j
  · subst hd; rw [h]; simp
  · rw [show decide (d < j + 1) = decide (d < j) by rw [decide_eq_decide]; omega]
theorem XsF_yes {all : Bool} {k j : Nat} (h : (all || decide (j = k)) = true) : XsF all k (j + 1) = fun x => XsF all k j x || decide (x = j) := by
  funext d
  unfold XsF
  by_cases hd : d = j
  · subst hd; rw [h]; simp
  · rw [show decide (d < j + 1) = decide (d < j) by rw [decide_eq_decide]; omega]
    simp [hd]
theorem lit01 (a : Nat) (ha : a < 2) : (#[Value.int .i64 0, .int .i64 1] : Array Value)[a]? = some (.int .i64 (a : Int)) := by
  have : a = 0 ∨ a = 1 := by omega
  rcases this with rfl | rfl <;> rfl
end Go.Proofs.Ytenjpldinnbcbaa
