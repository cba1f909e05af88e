/- Plain law of SlotsErrors. -/
import Derived.Test.YtenjpldinnbcbaaSlK
namespace Go.Proofs.Ytenjpldinnbcbaa
open Go.RowKit C
set_option linter.unusedVariables false
set_option linter.unusedSimpArgs false
set_option maxRecDepth 100000
set_option maxHeartbeats 1000000

theorem BA.frS {S S' : Nat → Prop} {w w' : World} {v : Value} {l : List Bool} (h : BA S w v l) (k : Fr S' w w') (hb : ∀ g, v.ownBlock = some g → ¬ S' g) : BA S w' v l := ⟨h.1.frN k (fun _ => hb), h.2⟩
theorem Bools.takeI {w : World} {ao : Option Addr} {n cap k : Nat} {l : List Bool} (h : Bools w (.slice ao n cap) l) (hk : k ≤ n) : Bools w (.slice ao k cap) (l.take k) := by
  obtain ⟨ao', cap', e, h1, h2, h0, h4⟩ := h
  cases e
  have e : k = (l.take k).length := by rw [List.length_take]; omega
  exact ⟨ao, cap, by rw [← e], by omega, h2, h0, by rw [List.map_take]; exact h4.take k⟩
theorem BA.takeI {S : Nat → Prop} {w : World} {ao : Option Addr} {n cap k : Nat} {l : List Bool} (h : BA S w (.slice ao n cap) l) (hk : k ≤ n) (hl : l ≠ []) : BA S w (.slice ao k cap) (l.take k) := by
  refine ⟨h.1.takeI hk, fun _ y hy => ?_⟩
  cases ao with
  | none => cases hy
  | some a => exact h.2 hl y hy
/-- a bench, which disks are live, a Super in its box -/
structure SB (base g : Nat) (lv : Value) (hs : List (Nat × Value)) (c : B.Bn) (vv : Value) (lvs : List Bool) (g8 : Nat) (s : Sup) (X : World) : Prop where
  bench : IsBench X base g lv hs c
  live : BA (ofB g lv hs) X vv lvs
  box : Box X g8 (scl s)
  no : ¬ ofB g lv hs g8
  lt : g8 < X.heap.size
theorem SB.up {base g : Nat} {lv : Value} {hs : List (Nat × Value)} {c : B.Bn} {vv : Value} {lvs : List Bool} {g8 : Nat} {s : Sup} {X Y : World} (h : SB base g lv hs c vv lvs g8 s X) (k : Below X.heap.size X Y) : SB base g lv hs c vv lvs g8 s Y :=
  ⟨h.bench.up k, h.live.up k, h.box.fr (Fr.of_below (S := fun _ => False) k) id, h.no, Nat.lt_of_lt_of_le h.lt k.size⟩
theorem SB.step {base g : Nat} {lv : Value} {hs hs' : List (Nat × Value)} {c c' : B.Bn} {vv : Value} {lvs : List Bool} {g8 : Nat} {s : Sup} {X Y : World} (h : SB base g lv hs c vv lvs g8 s X) (I : IsBench Y base g lv hs' c') (F : Fr (ofB g lv hs) X Y) (q : ∀ y, ofB g lv hs' y → ofB g lv hs y ∨ X.heap.size ≤ y) : SB base g lv hs' c' vv lvs g8 s Y :=
  ⟨I, h.live.step F q, h.box.fr F h.no, fun hh => by
    rcases q _ hh with h1 | h1
    · exact h.no h1
    · have := h.lt; omega, Nat.lt_of_lt_of_le h.lt F.size⟩
namespace B
theorem cntS_fresh (lvs : List Bool) (h0 : live1 lvs 0 = false) (h1 : live1 lvs 1 = true) (h2 : live1 lvs 2 = false) : cntS (fresh 3) lvs (fresh 3).ds.length = 1 := by
  rw [fresh_len]
  show ((0 + if live1 lvs 0 && !failB (fresh 3) 0 then 1 else 0) + if live1 lvs 1 && !failB (fresh 3) 1 then 1 else 0) + (if live1 lvs 2 && !failB (fresh 3) 2 then 1 else 0) = 1
  rw [h0, h1, h2, fresh_failB]; rfl
theorem pw_fail {b : Bn} (h : Pw b) (i : Nat) : Pw { b with ds := b.ds.set i D.fail } := ⟨h.down, h.left, fun d hd => by
  rcases List.mem_or_eq_of_mem_set hd with h1 | h1
  · exact h.ok d h1
  · rw [h1]; exact D.fail_ok⟩
/-- what stands behind a Store on the middle disk alone -/
theorem mid_best {lvs : List Bool} (h0 : live1 lvs 0 = false) (h1 : live1 lvs 1 = true) (h2 : live1 lvs 2 = false) {s : Sup} (hs : s.ok = true) (h3 : slotN s = 1) (hg : s.gen = 3) :
    bestN (storeB (fresh 3) lvs 1 s.enc) 3 = s ∧ (List.range 3).map (fun d => nearB s (sups (storeB (fresh 3) lvs 1 s.enc) d)) = [false, true, false] ∧ (bestN { storeB (fresh 3) lvs 1 s.enc with ds := (storeB (fresh 3) lvs 1 s.enc).ds.set 1 D.fail } 3).gen = 0 := by
  have hP := (Up.fresh 3).pw
  have key : ∀ i c, i < 3 → c < 2 → supAt (storeB (fresh 3) lvs 1 s.enc) i c = if live1 lvs i = true ∧ c = 1 then [s] else [] := by
    intro i c hi hc
    have := supAt_store hP lvs hs (i := i) (c := c) (by rw [fresh_len]; exact hi) hc (fresh_failB 3 i)
    rw [h3] at this
    rw [this, supAt_zeros (fresh_look 3 i c (by omega))]
  have s0 : sups (storeB (fresh 3) lvs 1 s.enc) 0 = [] := by
    unfold sups; rw [key 0 0 (by decide) (by decide), key 0 1 (by decide) (by decide), h0]; rfl
  have s1 : sups (storeB (fresh 3) lvs 1 s.enc) 1 = [s] := by
    unfold sups; rw [key 1 0 (by decide) (by decide), key 1 1 (by decide) (by decide), h1]; rfl
  have s2 : sups (storeB (fresh 3) lvs 1 s.enc) 2 = [] := by
    unfold sups; rw [key 2 0 (by decide) (by decide), key 2 1 (by decide) (by decide), h2]; rfl
  refine ⟨?_, ?_, ?_⟩
  · show newer (newer (newer Sup.zero _) _) _ = _
    rw [s0, s1, s2]
    show (if Sup.zero.gen < s.gen then s else Sup.zero) = s
    rw [if_pos (by rw [hg]; decide)]
  · show [nearB s _, nearB s _, nearB s _] = _
    rw [s0, s1, s2]
    have : nearB s [s] = true := by unfold nearB; simp; omega
    rw [this]; rfl
  · have hl : (storeB (fresh 3) lvs 1 s.enc).ds.length = 3 := (store_spec hP lvs (a := 1) (by decide) (x := s.enc) s.enc_len s.enc_byte).2.2.1
    rw [best_none 3 (fun i hi => ?_)]
    · rfl
    · have hat : ∀ j, at1 { storeB (fresh 3) lvs 1 s.enc with ds := (storeB (fresh 3) lvs 1 s.enc).ds.set 1 D.fail } j = if j = 1 then D.fail else at1 (storeB (fresh 3) lvs 1 s.enc) j := fun j => at1_set (b := storeB (fresh 3) lvs 1 s.enc) (by rw [hl]; decide) (storeB (fresh 3) lvs 1 s.enc).writes
      by_cases h : i = 1
      · subst h
        refine sups_fail ?_
        show (at1 _ 1).f = true
        rw [hat, if_pos rfl]; rfl
      · have e : ∀ c, supAt { storeB (fresh 3) lvs 1 s.enc with ds := (storeB (fresh 3) lvs 1 s.enc).ds.set 1 D.fail } i c = supAt (storeB (fresh 3) lvs 1 s.enc) i c := fun c => by
          unfold supAt
          have e1 : failB { storeB (fresh 3) lvs 1 s.enc with ds := (storeB (fresh 3) lvs 1 s.enc).ds.set 1 D.fail } i = failB (storeB (fresh 3) lvs 1 s.enc) i := by
            show (at1 _ i).f = (at1 _ i).f; rw [hat, if_neg h]
          have e2 : lookB { storeB (fresh 3) lvs 1 s.enc with ds := (storeB (fresh 3) lvs 1 s.enc).ds.set 1 D.fail } i c = lookB (storeB (fresh 3) lvs 1 s.enc) i c := by
            show D.look (at1 _ i) c = D.look (at1 _ i) c; rw [hat, if_neg h]
          rw [e1, e2]
        have e3 : sups { storeB (fresh 3) lvs 1 s.enc with ds := (storeB (fresh 3) lvs 1 s.enc).ds.set 1 D.fail } i = sups (storeB (fresh 3) lvs 1 s.enc) i := by unfold sups; rw [e 0, e 1]
        rw [e3]
        have : i = 0 ∨ i = 2 := by omega
        rcases this with rfl | rfl
        · exact s0
        · exact s2
end B
end Go.Proofs.Ytenjpldinnbcbaa
