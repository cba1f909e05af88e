/- The walk of wattlelaw19.wakes. -/
import Derived.Test.YtenjpldinnbcbaaBkG
import Derived.Test.YtenjpldinnbcbaaSect
import Derived.Test.YtenjpldinnbcbaaBen
namespace Go.Proofs.Ytenjpldinnbcbaa
open Go.RowKit
set_option linter.unusedVariables false
set_option linter.unusedSimpArgs false
set_option maxRecDepth 100000
set_option maxHeartbeats 2000000

namespace B
theorem Up.fresh (n : Nat) : Up (fresh n) := ⟨rfl, rfl, fun d hd => by rw [List.eq_of_mem_replicate hd]; rfl, fun d hd => by rw [List.eq_of_mem_replicate hd]; exact D.blank_ok⟩
theorem fresh_len (n : Nat) : (fresh n).ds.length = n := by simp [fresh]
theorem fresh_p (n : Nat) : ∀ d ∈ (fresh n).ds, d.p.length ≤ 1000000 := fun d hd => by rw [List.eq_of_mem_replicate hd]; decide
theorem fresh_w (n : Nat) : 0 ≤ (fresh n).writes ∧ (fresh n).writes ≤ 1000000000 := ⟨Int.le_refl _, by show (0 : Int) ≤ _; decide⟩
theorem look_blank (a : Nat) (ha : a < 52) : D.look D.blank a = List.replicate 32 0 := by
  show (D.blank.l.getD a []) = _
  unfold D.blank
  rw [List.getD, List.getElem?_replicate, if_pos ha]; rfl
/-- a head is no row of zeros -/
theorem headL_mark (e x : Nat) (data : List (List Nat)) : (headL e x data)[0]? = some 87 := by
  unfold headL C.sealed
  rfl
theorem ofOk_zero {b : Bn} {i e x : Nat} (h : lookB b i 6 = List.replicate 32 0) : ofOk b i e x = false := by
  unfold ofOk
  have : ¬ lookB b i 6 = headL e x (ofL b i) := by
    rw [h]
    intro e2
    have := congrArg (fun l => l[0]?) e2
    simp only [headL_mark] at this
    cases this
  rw [decide_eq_false this]
  simp
theorem getO_none {b : Bn} {lv : List Bool} {e x : Nat} : ∀ n, (∀ i, i < n → (live1 lv i && ofOk b i e x) = false) → getO b lv e x n = none := by
  intro n
  induction n with
  | zero => intro _; rfl
  | succ n ih => intro h; exact getO_succ_no (ih fun i hi => h i (by omega)) (h n (by omega))
theorem fresh_at (n i : Nat) : (fresh n).ds.getD i D.blank = D.blank := by
  unfold fresh
  rw [List.getD_eq_getElem?_getD, List.getElem?_replicate]
  split <;> rfl
theorem fresh_look (n i a : Nat) (ha : a < 52) : lookB (fresh n) i a = List.replicate 32 0 := by
  unfold lookB
  rw [fresh_at]
  exact look_blank a ha
end B
/-- one row just made lies apart from what was -/
theorem PA.lit1 {w : World} {base : Nat} {v : Value} {l : List Nat} {g : Nat} {S : Nat → Prop} (hg : g = w.heap.size) (h : Own w base v l) (hb : base ≤ w.heap.size) (hS : ∀ y, S y → y < base) : PA S (w.alloc (.cells #[v] 48)) (.slice (some ⟨g, 0, none⟩) 1 1) [l] := by
  subst hg
  refine PA.of_rowB (base := base) (cs := [v]) (World.ownsRow_lit w #[v] 1 hb (by simp [maxLen]) rfl) rfl hS fun i hi => ?_
  cases i with
  | zero => exact ⟨v, rfl, (h.byt).up (belA1 (belR _)), fun _ y hy hs => by have := (h.2.lt y hy).1; have := hS y hs; omega⟩
  | succ i => simp at hi
theorem OwnD.pa {w : World} {base : Nat} {v : Value} {ls : List (List Nat)} {X S : Nat → Prop} (h : OwnD w base v ls X) (hS : ∀ y, S y → y < base) : PA S w v ls := by
  obtain ⟨cs, h1, h2, _⟩ := h
  exact PA.of_rowB h1 (by have := h1.1; omega) hS fun i hi => let ⟨c, e, hc, _⟩ := h2 i hi; ⟨c, e, hc.byt, fun _ y hy hs => by have := (hc.2.lt y hy).1; have := hS y hs; omega⟩
attribute [local irreducible] Go.Calls Byt Own Parts PA BA Bools OwnD OwnT
theorem wakes19_any (w : World) : Calls Try.prog 21 #[] w fun e w' => e = .returned (.bool true) ∧ Below w.heap.size w w' := by
  have HGN : Hid (B.getO (B.fresh 3) [true, true, true] 0 0 (B.fresh 3).ds.length = none) := B.getO_none _ fun i hi => by rw [B.ofOk_zero (B.fresh_look 3 i 6 (by decide))]; simp
  have HFL : Hid ((B.fresh 3).ds.length = 3) := B.fresh_len 3
  go_enter Try.func21, Try.ntmps21
  go_wp2_with fail
  refine Calls.mono (bnew_any w 3 (by decide) (by decide)) ?_
  rintro r w1 ⟨rfl, ⟨lv, hs, I1⟩, b1⟩
  have hw1 : w.heap.size < w1.heap.size := I1.lt
  have I1 := Lib.hid I1
  go_wp2_with fail
  have HGET := bkget_any _ _ _ _ _ _ _ [true, true, true] 0 0 (I1.out.up (belA1 (belR _))) (B.Up.fresh 3).lv (by rw [HFL.out]; decide) (OwnT.lit w1 #[.bool true, .bool true, .bool true] [true, true, true] rfl rfl rfl (by decide)).bools (by decide) (by decide)
  rw [HGN.out] at HGET
  refine Calls.mono HGET ?_
  clear HGET
  rintro r w2 ⟨v2, rfl, _, b2⟩
  have B2 := Lib.hid (belT (belA1 (belR w1)) b2)
  have I2 := Lib.hid (I1.out.up B2.out)
  clear b2
  go_wp2_with fail
  refine Calls.mono (sector_any 1 _ (by decide)) ?_
  rintro r w3 ⟨v3, rfl, O3, b3⟩
  obtain ⟨a3, k3, rfl, _, _⟩ := O3.byt.shapeN (secL_len 1)
  have B3 := Lib.hid (belT (belA1 (belR w2)) b3)
  have I3 : Hid (IsBench (w3.alloc (.cells #[.slice a3 32 k3] 48)) w.heap.size w.heap.size lv hs (B.fresh 3)) := Lib.hid ((I2.out.up B3.out).up (belA1 (belR _)))
  have hs3 : w2.heap.size < w3.heap.size := by have := b3.size; simp at this; omega
  have hw2 : w1.heap.size ≤ w2.heap.size := B2.out.size
  have hT := OwnT.lit w2 #[.bool true] [true] (g := w2.heap.size) rfl rfl rfl (by decide)
  have LT3 := Lib.hid (hT.up b3)
  have hLT2 := I2.out.lts
  have HPUT := Lib.hid (bkput_yes (w3.alloc (.cells #[.slice a3 32 k3] 48)) _ _ _ _ _ (.slice (some ⟨w2.heap.size, 0, none⟩) 1 1) [true] 1 2 _ [secL 1] I3.out (B.Up.fresh 3) (by simp; omega)
    ((LT3.out.up (belA1 (belR _))).ba hLT2) (PA.lit1 rfl O3 b3.size (fun y hy => by have := hLT2 y hy; simp; omega)) (by decide) (by decide) (by simp) (by intro p hp; simp at hp; rw [hp]; exact secL_len 1) (by rw [HFL.out]; decide) (B.fresh_p 3) (B.fresh_w 3))
  clear O3 hT hLT2
  go_wp2_with fail
  refine Calls.mono HPUT.out ?_
  rintro r w4 ⟨rfl, hs4, I4, F4, q4⟩
  have BF := Fr.below (belT b1 (belT B2.out (belT B3.out (belA1 (belR w3))))) F4 (by simp; omega) I3.out.ges
  go_wp2
  go_ret
  exact ⟨rfl, BF⟩
end Go.Proofs.Ytenjpldinnbcbaa
