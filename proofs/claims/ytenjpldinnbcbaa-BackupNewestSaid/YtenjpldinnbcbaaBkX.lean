/- Plain law of BackupNewest; a box written into; the tail of whole numbers. -/
import Derived.Test.YtenjpldinnbcbaaBkN
namespace Go.Proofs.Ytenjpldinnbcbaa
open Go.RowKit
set_option linter.unusedVariables false
set_option linter.unusedSimpArgs false
set_option maxRecDepth 100000
set_option maxHeartbeats 4000000

/-- the sectors of round k -/
def dataN (l : List Int) (k : Nat) : List (List Nat) := sectL (l.drop (min k l.length)) (1 + k % 3)
theorem dataN_len (l : List Int) (k : Nat) : (dataN l k).length = 1 + k % 3 := sectL_len _ _
theorem dataN_32 (l : List Int) (k : Nat) : ∀ p ∈ dataN l k, p.length = 32 := sectL_32 _ _
theorem dataN_byte (l : List Int) (k : Nat) : ∀ p ∈ dataN l k, ∀ y ∈ p, y < 256 := sectL_byte _ _
/-- what stands on the disks behind some rounds; h: the last round (one more) in which each was live -/
structure NI (l : List Int) (c : B.Bn) (h : Nat → Nat) (i : Nat) : Prop where
  up : B.Up c
  len : c.ds.length = 3
  p : ∀ d ∈ c.ds, d.p.length ≤ 46 * i
  w : 0 ≤ c.writes ∧ c.writes ≤ 100 * (i : Int)
  le : ∀ d, h d ≤ i
  ok : ∀ d e x, d < 3 → e < 65536 → x ≤ 16 → B.ofOk c d e x = decide (e = 1 ∧ x + 1 = h d)
  of : ∀ d x, d < 3 → x + 1 = h d → B.ofL c d = dataN l x
theorem NI.zero (l : List Int) : NI l (B.fresh 3) (fun _ => 0) 0 where
  up := B.Up.fresh 3
  len := B.fresh_len 3
  p := fun d hd => by rw [List.eq_of_mem_replicate hd]; decide
  w := ⟨Int.le_refl _, Int.le_refl _⟩
  le := fun _ => Nat.le_refl _
  ok := fun d e x hd he hx => by
    rw [B.ofOk_zero (B.fresh_look 3 d 6 (by decide)), decide_eq_false (by omega)]
  of := fun d x hd h => by omega
theorem NI.step {l : List Int} {c : B.Bn} {h h' : Nat → Nat} {i : Nat} (H : NI l c h i) (hi : i ≤ 16) (lv : List Bool) (hlv : lv.length ≤ 8) (hh : ∀ d, h' d = if B.live1 lv d = true then i + 1 else h d) : NI l (B.putB c lv (headL 1 i (dataN l i) :: dataN l i)) h' (i + 1) := by
  have h3 : (dataN l i).length ≤ 28 := by rw [dataN_len]; omega
  obtain ⟨cu, cl, cw⟩ := B.put_up (lv := lv) (e := 1) (x := i) H.up (dataN_32 l i) (dataN_byte l i) h3
  have cp := B.put_p (lv := lv) (e := 1) (x := i) H.up (dataN_32 l i) (dataN_byte l i) h3 H.p
  have hl := H.len
  have hc := B.cntL_le lv c.ds.length
  have hw := H.w
  have hd3 : (dataN l i).length + 1 ≤ 4 := by rw [dataN_len]; omega
  refine ⟨cu, cl.trans hl, fun d hd => by have := cp d hd; omega, ?_, fun d => ?_, fun d e x hd he hx => ?_, fun d x hd hx => ?_⟩
  · rw [cw]
    have : B.cntL lv c.ds.length * ((dataN l i).length + 1) ≤ 3 * 4 := Nat.mul_le_mul (by omega) hd3
    omega
  · rw [hh]; have := H.le d; split <;> omega
  · by_cases hv : B.live1 lv d = true
    · rw [hh, if_pos hv]
      by_cases hq : e = 1 ∧ x = i
      · rw [hq.1, hq.2, (B.put_live H.up (dataN_32 l i) (dataN_byte l i) h3 (by omega) hv).2.2.2, decide_eq_true ⟨rfl, rfl⟩]
      · rw [B.put_other H.up (dataN_32 l i) (dataN_byte l i) h3 (by omega) hv (by decide) hi he hx (fun h => hq ⟨h.1.symm, h.2.symm⟩), decide_eq_false (fun h => hq ⟨h.1, by omega⟩)]
    · rw [hh, if_neg hv]
      rw [(B.put_dead H.up (dataN_32 l i) (dataN_byte l i) h3 (by omega) (by simpa using hv) e x).1]
      exact H.ok d e x hd he hx
  · by_cases hv : B.live1 lv d = true
    · rw [hh, if_pos hv] at hx
      have : x = i := by omega
      subst this
      exact (B.put_live H.up (dataN_32 l x) (dataN_byte l x) h3 (by omega) hv).2.2.1
    · rw [hh, if_neg hv] at hx
      have hle := H.le d
      rw [(B.put_dead H.up (dataN_32 l i) (dataN_byte l i) h3 (by omega) (by simpa using hv) 1 x).2 (by rw [H.ok d 1 x hd (by decide) (by omega)]; exact decide_eq_true ⟨rfl, hx⟩)]
      exact H.of d x hd hx
/-- what Get finds -/
theorem NI.get {l : List Int} {c : B.Bn} {h : Nat → Nat} {i : Nat} (H : NI l c h i) {e x : Nat} (he : e < 65536) (hx : x ≤ 16) :
    (B.getO c [true, true, true] e x c.ds.length).isSome = decide (e = 1 ∧ (x + 1 = h 0 ∨ x + 1 = h 1 ∨ x + 1 = h 2)) ∧ ∀ d, B.getO c [true, true, true] e x c.ds.length = some d → B.ofL c d = dataN l x := by
  rw [H.len]
  have key : ∀ d, d < 3 → (B.live1 [true, true, true] d && B.ofOk c d e x) = decide (e = 1 ∧ x + 1 = h d) := fun d hd => by
    rw [H.ok d e x hd he hx]
    have : B.live1 [true, true, true] d = true := by
      have : d = 0 ∨ d = 1 ∨ d = 2 := by omega
      rcases this with rfl | rfl | rfl <;> rfl
    rw [this]; rfl
  constructor
  · unfold B.getO
    rw [Bool.eq_iff_iff, List.find?_isSome, decide_eq_true_iff]
    constructor
    · rintro ⟨d, hd, hv⟩
      have hd3 := List.mem_range.1 hd
      rw [key d hd3, decide_eq_true_iff] at hv
      refine ⟨hv.1, ?_⟩
      have : d = 0 ∨ d = 1 ∨ d = 2 := by omega
      rcases this with rfl | rfl | rfl
      · exact .inl hv.2
      · exact .inr (.inl hv.2)
      · exact .inr (.inr hv.2)
    · rintro ⟨h1, hv⟩
      rcases hv with hv | hv | hv
      · exact ⟨0, by decide, by rw [key 0 (by decide)]; exact decide_eq_true ⟨h1, hv⟩⟩
      · exact ⟨1, by decide, by rw [key 1 (by decide)]; exact decide_eq_true ⟨h1, hv⟩⟩
      · exact ⟨2, by decide, by rw [key 2 (by decide)]; exact decide_eq_true ⟨h1, hv⟩⟩
  · intro d hd
    have h1 := List.find?_some hd
    have h2 := List.mem_range.1 (List.mem_of_find?_eq_some hd)
    have h1' : (B.live1 [true, true, true] d && B.ofOk c d e x) = true := h1
    rw [key d h2, decide_eq_true_iff] at h1'
    exact H.of d x h2 h1'.2
theorem Box.set {W : World} {g : Nat} {cs : List Value} (h : Box W g cs) (k : Nat) (v : Value) : Box (W.setCell ⟨g, k, none⟩ v) g (cs.set k v) := by
  refine ⟨fun j u hj => ?_, ?_⟩
  · rw [Nat.zero_add]
    by_cases hk : k = j
    · subst hk
      have hlt : k < cs.length := by
        have := (List.getElem?_eq_some_iff.1 hj).1
        simpa using this
      have h0 := h.range k cs[k] (List.getElem?_eq_getElem hlt)
      rw [Nat.zero_add] at h0
      rw [List.getElem?_set_self hlt] at hj
      cases hj
      exact World.cell?_setCell_same _ _ _ h0
    · rw [List.getElem?_set_ne hk] at hj
      have h0 := h.range j u hj
      rw [Nat.zero_add] at h0
      exact (World.cell?_setCell_other _ _ _ _ (by intro e; have := congrArg Addr.off e; simp at this; omega)).trans h0
  · rw [List.length_set]
    intro j hj
    obtain ⟨h1, h2⟩ := h.there j hj
    refine ⟨?_, by rw [World.frozen?_setCell]; exact h2⟩
    rw [Nat.zero_add] at h1 ⊢
    by_cases hk : k = j
    · subst hk
      obtain ⟨u, hu⟩ := Option.isSome_iff_exists.1 h1
      rw [World.cell?_setCell_same _ _ _ hu]; rfl
    · rw [World.cell?_setCell_other _ _ _ _ (by intro e; have := congrArg Addr.off e; simp at this; omega)]; exact h1
/-- the tail of whole numbers -/
theorem Ints.drop {w : World} {b off n cap : Nat} {l : List Int} (h : Ints w (.slice (some ⟨b, off, none⟩) n cap) l) {m : Nat} (hm : m ≤ n) : Ints w (.slice (some ⟨b, off + m, none⟩) (n - m) (cap - m)) (l.drop m) := by
  obtain ⟨ao', cap', e, h1, h2, h0, h3, h4⟩ := h
  cases e
  refine ⟨some ⟨b, off + m, none⟩, cap - m, by rw [List.length_drop], by rw [List.length_drop]; omega, by omega, (fun h => by cases h), fun x hx => h3 x (List.mem_of_mem_drop hx), ?_⟩
  rw [List.map_drop]
  exact h4.drop m
theorem Ints.tail {w : World} {ao : Option Addr} {n cap : Nat} {l : List Int} (h : Ints w (.slice ao n cap) l) {m : Nat} (hm : m ≤ n) :
    (m = cap → Ints w (.slice ao (n - m) 0) (l.drop m)) ∧ (m ≠ cap → Ints w (.slice (ao.map (fun x => x.add m)) (n - m) (cap - m)) (l.drop m)) := by
  have hn : n = l.length ∧ l.length ≤ cap := by
    obtain ⟨ao', cap', e, h1, h2, h0, h3, h4⟩ := h
    cases e
    exact ⟨rfl, h1⟩
  constructor
  · intro hc
    obtain ⟨ao', cap', e, h1, h2, h0, h3, h4⟩ := h
    cases e
    have hd : l.drop m = [] := List.drop_eq_nil_of_le (by omega)
    rw [hd]
    exact ⟨ao, 0, by rw [show l.length - m = ([] : List Int).length by simp; omega], Nat.le_refl _, by simp [maxLen], fun _ => rfl, (fun x hx => by cases hx), .inl rfl⟩
  · intro hc
    cases ao with
    | some a =>
      obtain ⟨ao', cap', e, h1, h2, h0, h3, h4⟩ := h
      cases e
      rcases h4 with h4 | ⟨b, off, e, hlt, hq⟩
      · have hl : l = [] := by simpa using h4
        subst hl
        have : m = 0 := by simpa using hm
        subst this
        exact ⟨_, cap - 0, rfl, by simp, by omega, (fun h => by cases h), (fun x hx => by cases hx), .inl rfl⟩
      · cases e
        have := Ints.drop ⟨_, cap, rfl, h1, h2, h0, h3, .inr ⟨b, off, rfl, hlt, hq⟩⟩ hm
        show Ints w (.slice (some (Addr.add ⟨b, off, none⟩ m)) _ _) _
        rw [Addr.add_lit]
        exact this
    | none =>
      obtain ⟨ao', cap', e, h1, h2, h0, h3, h4⟩ := h
      cases e
      exact absurd (h0 rfl) (by omega)
/-- which rounds each disk was live in, in the midst of a round -/
def midH (h : Nat → Nat) (lv : List Bool) (i j d : Nat) : Nat := if d < j ∧ B.live1 lv d = true then i + 1 else h d
def hCells (h : Nat → Nat) : List Value := [.int .i64 (h 0 : Nat), .int .i64 (h 1 : Nat), .int .i64 (h 2 : Nat)]
theorem midH_zero (h : Nat → Nat) (lv : List Bool) (i : Nat) : midH h lv i 0 = h := by
  funext d; unfold midH; rw [if_neg (by omega)]
theorem midH_no {h : Nat → Nat} {lv : List Bool} {i j : Nat} (hv : B.live1 lv j = false) : midH h lv i (j + 1) = midH h lv i j := by
  funext d
  unfold midH
  by_cases hd : d = j
  · subst hd
    rw [if_neg (by rw [hv]; simp), if_neg (by omega)]
  · by_cases h2 : d < j ∧ B.live1 lv d = true
    · rw [if_pos h2, if_pos ⟨by omega, h2.2⟩]
    · rw [if_neg h2, if_neg (fun h3 => h2 ⟨by omega, h3.2⟩)]
theorem midH_yes {h : Nat → Nat} {lv : List Bool} {i j : Nat} (hv : B.live1 lv j = true) (hj : j < 3) : hCells (midH h lv i (j + 1)) = (hCells (midH h lv i j)).set j (.int .i64 ((i + 1 : Nat) : Int)) := by
  have hs : midH h lv i (j + 1) j = i + 1 := by unfold midH; rw [if_pos ⟨by omega, hv⟩]
  have ho : ∀ d, d ≠ j → midH h lv i (j + 1) d = midH h lv i j d := fun d hd => by
    unfold midH
    by_cases h2 : d < j ∧ B.live1 lv d = true
    · rw [if_pos h2, if_pos ⟨by omega, h2.2⟩]
    · rw [if_neg h2, if_neg (fun h3 => h2 ⟨by omega, h3.2⟩)]
  have : j = 0 ∨ j = 1 ∨ j = 2 := by omega
  unfold hCells
  rcases this with rfl | rfl | rfl
  · rw [hs, ho 1 (by decide), ho 2 (by decide)]; rfl
  · rw [hs, ho 0 (by decide), ho 2 (by decide)]; rfl
  · rw [hs, ho 0 (by decide), ho 1 (by decide)]; rfl
theorem midH_all {h : Nat → Nat} {lv : List Bool} {i : Nat} (hl : lv.length = 3) : ∀ d, midH h lv i 3 d = if B.live1 lv d = true then i + 1 else h d := by
  intro d
  unfold midH
  by_cases hd : d < 3
  · by_cases hv : B.live1 lv d = true
    · rw [if_pos ⟨hd, hv⟩, if_pos hv]
    · rw [if_neg (fun h => hv h.2), if_neg hv]
  · have : B.live1 lv d = false := by unfold B.live1; rw [List.getD_eq_getElem?_getD, List.getElem?_eq_none (by omega)]; rfl
    rw [if_neg (fun h => hd h.1), if_neg (by rw [this]; decide)]
theorem BA.frS {S S' : Nat → Prop} {w w' : World} {v : Value} {l : List Bool} (h : BA S w v l) (k : Fr S' w w') (hb : ∀ g, v.ownBlock = some g → ¬ S' g) : BA S w' v l := ⟨h.1.frN k (fun _ => hb), h.2⟩
/-- the world behind some rounds -/
def NJ (W : World) (gh ga base : Nat) (lv : Value) (l : List Int) (i : Nat) (X : World) : Prop :=
  ∃ hs c h, IsBench X W.heap.size W.heap.size lv hs c ∧ NI l c h i ∧ Box X gh (hCells h) ∧ BA (ofB W.heap.size lv hs) X (.slice (some ⟨ga, 0, none⟩) 3 3) [true, true, true] ∧ ¬ ofB W.heap.size lv hs gh ∧ Below W.heap.size W X ∧ base ≤ X.heap.size
/-- the world behind a Put of round i -/
def NP (W : World) (gh ga base : Nat) (lv : Value) (l : List Int) (i : Nat) (h : Nat → Nat) (vv : Value) (lvs : List Bool) (X : World) : Prop :=
  ∃ hs c, IsBench X W.heap.size W.heap.size lv hs c ∧ NI l c (midH h lvs i 3) (i + 1) ∧ Box X gh (hCells h) ∧ BA (ofB W.heap.size lv hs) X (.slice (some ⟨ga, 0, none⟩) 3 3) [true, true, true] ∧ BA (ofB W.heap.size lv hs) X vv lvs ∧ ¬ ofB W.heap.size lv hs gh ∧ Below W.heap.size W X ∧ base ≤ X.heap.size
end Go.Proofs.Ytenjpldinnbcbaa
