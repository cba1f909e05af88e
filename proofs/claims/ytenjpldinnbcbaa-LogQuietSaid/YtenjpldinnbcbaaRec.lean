/- Records over plain numbers: which may be, their sectors, back again. No Go, no memory, no condition. -/
import Derived.Test.YtenjpldinnbcbaaSupA
namespace Go.Proofs.Ytenjpldinnbcbaa
open C
set_option linter.unusedVariables false
set_option linter.unusedSimpArgs false

/-- an item -/
structure RI where
  d : Int
  a : Int
  b : List Nat
def RI.fine (x : RI) : Bool := inB x.d 0 7 && inB x.a 36 51 && (x.b.length == 32)
/-- do two go to the same place? -/
def RI.at (y x : RI) : Bool := (y.d == x.d) && (y.a == x.a)
/-- is a place among those of some? -/
def RI.hit (l : List RI) (x : RI) : Bool := l.any (fun y => y.at x)
/-- those ahead; those that are left: is each of them fine, and at a place of its own? -/
def RI.good : List RI → List RI → Bool
  | _, [] => true
  | p, x :: r => x.fine && !(RI.hit p x) && RI.good (p ++ [x]) r
/-- may a record be? -/
def rok (s : Int) (l : List RI) : Bool := inB s 1 2147483647 && decide (l.length ≤ 3) && RI.good [] l
theorem rok_iff (s : Int) (l : List RI) : rok s l = true ↔ (1 ≤ s ∧ s ≤ 2147483647) ∧ l.length ≤ 3 ∧ RI.good [] l = true := by
  unfold rok; simp only [Bool.and_eq_true, inB_iff, decide_eq_true_eq, and_assoc]
theorem RI.fine_iff (x : RI) : x.fine = true ↔ (0 ≤ x.d ∧ x.d ≤ 7) ∧ (36 ≤ x.a ∧ x.a ≤ 51) ∧ x.b.length = 32 := by
  unfold RI.fine; simp only [Bool.and_eq_true, inB_iff, beq_iff_eq, and_assoc]
theorem RI.good_step {l : List RI} {k : Nat} {x : RI} (h : l[k]? = some x) : RI.good (l.take k) (l.drop k) = (x.fine && !(RI.hit (l.take k) x) && RI.good (l.take (k + 1)) (l.drop (k + 1))) := by
  obtain ⟨hk, he⟩ := List.getElem?_eq_some_iff.1 h
  have e : l.take (k + 1) = l.take k ++ [x] := by rw [List.take_add_one, h]; rfl
  rw [List.drop_eq_getElem_cons hk, he, e]
  rfl
theorem RI.good_end (l : List RI) : RI.good (l.take l.length) (l.drop l.length) = true := by
  rw [List.drop_length]; rfl
theorem RI.good_fine : ∀ (l p : List RI), RI.good p l = true → ∀ x ∈ l, x.fine = true := by
  intro l
  induction l with
  | nil => intro p _ x hx; cases hx
  | cons y l ih =>
    intro p h x hx
    unfold RI.good at h
    simp only [Bool.and_eq_true] at h
    cases hx with
    | head => exact h.1.1
    | tail _ hx => exact ih _ h.2 x hx
theorem rok_fine {s : Int} {l : List RI} (h : rok s l = true) : ∀ x ∈ l, x.fine = true := RI.good_fine l [] ((rok_iff s l).1 h).2.2
/-- the head's bytes ahead of the zeros -/
def rplace (x : RI) : List Nat := [x.d.toNat % 256, x.a.toNat % 256]
def rhd (s : Int) (l : List RI) : List Nat := [87, 82, 69, 67] ++ [s.toNat / 16777216 % 256, s.toNat / 65536 % 256, s.toNat / 256 % 256, s.toNat % 256, l.length % 256] ++ l.flatMap rplace
def rfull (s : Int) (l : List RI) : List Nat := rhd s l ++ List.replicate (23 - 2 * l.length) 0
def zero32 : List Nat := List.replicate 32 0
/-- the sectors behind the head -/
def rrows (l : List RI) : List (List Nat) := l.map RI.b ++ List.replicate (3 - l.length) zero32
/-- all four -/
def renc (s : Int) (l : List RI) : List (List Nat) := sealed (rfull s l) (rrows l) :: rrows l
theorem rplace_len (l : List RI) : (l.flatMap rplace).length = 2 * l.length := by
  induction l with
  | nil => rfl
  | cons x l ih => rw [List.flatMap_cons, List.length_append, ih, List.length_cons]; show 2 + _ = _; omega
theorem rhd_len (s : Int) (l : List RI) : (rhd s l).length = 9 + 2 * l.length := by
  unfold rhd; rw [List.length_append, List.length_append, rplace_len]; rfl
theorem rfull_len (s : Int) {l : List RI} (h : l.length ≤ 3) : (rfull s l).length = 32 := by
  unfold rfull; rw [List.length_append, rhd_len, List.length_replicate]; omega
theorem rrows_len {l : List RI} (h : l.length ≤ 3) : (rrows l).length = 3 := by
  unfold rrows; rw [List.length_append, List.length_map, List.length_replicate]; omega
theorem rplace_byte (l : List RI) : ∀ c ∈ l.flatMap rplace, c < 256 := by
  intro c hc
  obtain ⟨x, _, hx⟩ := List.mem_flatMap.1 hc
  simp only [rplace, List.mem_cons, List.not_mem_nil, or_false] at hx
  omega
theorem rhd_byte (s : Int) (l : List RI) : ∀ c ∈ rhd s l, c < 256 := by
  intro c hc
  unfold rhd at hc
  rcases List.mem_append.1 hc with h | h
  · simp only [List.cons_append, List.nil_append, List.mem_cons, List.not_mem_nil, or_false] at h
    omega
  · exact rplace_byte l c h
theorem rfull_byte (s : Int) (l : List RI) : ∀ c ∈ rfull s l, c < 256 := by
  intro c hc
  rcases List.mem_append.1 hc with h | h
  · exact rhd_byte s l c h
  · rw [List.eq_of_mem_replicate h]; decide
theorem zero32_byte : ∀ c ∈ zero32, c < 256 := by intro c hc; rw [List.eq_of_mem_replicate hc]; decide
theorem rrows_byte {l : List RI} (h : ∀ x ∈ l, ∀ c ∈ x.b, c < 256) : ∀ b ∈ rrows l, ∀ c ∈ b, c < 256 := by
  intro b hb
  rcases List.mem_append.1 hb with h1 | h1
  · obtain ⟨x, hx, rfl⟩ := List.mem_map.1 h1; exact h x hx
  · rw [List.eq_of_mem_replicate h1]; exact zero32_byte
theorem rrows_32 {l : List RI} (h : ∀ x ∈ l, x.fine = true) : ∀ b ∈ rrows l, b.length = 32 := by
  intro b hb
  rcases List.mem_append.1 hb with h1 | h1
  · obtain ⟨x, hx, rfl⟩ := List.mem_map.1 h1; exact ((RI.fine_iff x).1 (h x hx)).2.2
  · rw [List.eq_of_mem_replicate h1]; rfl
theorem renc_len {s : Int} {l : List RI} (h : l.length ≤ 3) : (renc s l).length = 4 := by
  unfold renc; rw [List.length_cons, rrows_len h]
theorem renc_byte {s : Int} {l : List RI} (h : ∀ x ∈ l, ∀ c ∈ x.b, c < 256) : ∀ b ∈ renc s l, ∀ c ∈ b, c < 256 := by
  intro b hb
  cases hb with
  | head => exact sealed_byte (rfull_byte s l)
  | tail _ hb => exact rrows_byte h b hb
theorem renc_32 {s : Int} {l : List RI} (hl : l.length ≤ 3) (h : ∀ x ∈ l, x.fine = true) : ∀ b ∈ renc s l, b.length = 32 := by
  intro b hb
  cases hb with
  | head => exact sealed_len _ (rfull_len s hl)
  | tail _ hb => exact rrows_32 h b hb
/-- what four sectors tell: the number, the items -/
def rseq (h : List Nat) : Int := (num ((h.drop 4).take 4) : Nat)
def rcount (h : List Nat) : Nat := Nat.min (h.getD 8 0) 3
def ritem (ls : List (List Nat)) (i : Nat) : RI := ⟨((ls.getD 0 []).getD (9 + 2 * i) 0 : Nat), ((ls.getD 0 []).getD (10 + 2 * i) 0 : Nat), ls.getD (1 + i) []⟩
def ritems (ls : List (List Nat)) (k : Nat) : List RI := (List.range k).map (ritem ls)
theorem ritems_succ (ls : List (List Nat)) (k : Nat) : ritems ls (k + 1) = ritems ls k ++ [ritem ls k] := by
  unfold ritems; rw [List.range_succ, List.map_append]; rfl
theorem ritems_len (ls : List (List Nat)) (k : Nat) : (ritems ls k).length = k := by unfold ritems; simp
/-- are they a record's? -/
def rform (ls : List (List Nat)) : Bool := (ls.length == 4) && ls.all (fun b => b.length == 32)
def rnum (ls : List (List Nat)) : Int := rseq (ls.getD 0 [])
def rlist (ls : List (List Nat)) : List RI := ritems ls (rcount (ls.getD 0 []))
def ris (ls : List (List Nat)) : Bool := rform ls && rok (rnum ls) (rlist ls) && (renc (rnum ls) (rlist ls) == ls)
theorem rform_iff (ls : List (List Nat)) : rform ls = true ↔ ls.length = 4 ∧ ∀ b ∈ ls, b.length = 32 := by
  unfold rform; simp only [Bool.and_eq_true, beq_iff_eq, List.all_eq_true]
theorem ris_iff (ls : List (List Nat)) : ris ls = true ↔ (ls.length = 4 ∧ ∀ b ∈ ls, b.length = 32) ∧ rok (rnum ls) (rlist ls) = true ∧ renc (rnum ls) (rlist ls) = ls := by
  unfold ris; rw [Bool.and_eq_true, Bool.and_eq_true, rform_iff, beq_iff_eq, and_assoc]
theorem sealed_getDL {b : List Nat} (ls : List (List Nat)) (hl : b.length = 32) {k : Nat} (hk : k < 28) : (sealed b ls).getD k 0 = b.getD k 0 := by
  rw [← getD_take (n := 28) hk, sealed_take ls hl, getD_take hk]
theorem rfull_hd (s : Int) (l : List RI) {k : Nat} (hk : k < 9) : (rfull s l).getD k 0 = ([87, 82, 69, 67, s.toNat / 16777216 % 256, s.toNat / 65536 % 256, s.toNat / 256 % 256, s.toNat % 256, l.length % 256] : List Nat).getD k 0 := by
  unfold rfull
  rw [getD_app (by rw [rhd_len]; omega)]
  unfold rhd
  rw [getD_app (by simpa using hk)]
  rfl
theorem rplace_get : ∀ (l : List RI) (i : Nat) (x : RI), l[i]? = some x → (l.flatMap rplace)[2 * i]? = some (x.d.toNat % 256) ∧ (l.flatMap rplace)[2 * i + 1]? = some (x.a.toNat % 256) := by
  intro l
  induction l with
  | nil => intro i x h; cases h
  | cons y l ih =>
    intro i x h
    rw [List.flatMap_cons]
    cases i with
    | zero => cases h; exact ⟨rfl, rfl⟩
    | succ i =>
      have := ih i x h
      rw [show 2 * (i + 1) = 2 * i + 1 + 1 by omega, show rplace y ++ l.flatMap rplace = y.d.toNat % 256 :: y.a.toNat % 256 :: l.flatMap rplace from rfl, List.getElem?_cons_succ, List.getElem?_cons_succ, List.getElem?_cons_succ, List.getElem?_cons_succ]
      exact this
theorem rfull_place (s : Int) {l : List RI} {i : Nat} {x : RI} (h : l[i]? = some x) : (rfull s l).getD (9 + 2 * i) 0 = x.d.toNat % 256 ∧ (rfull s l).getD (10 + 2 * i) 0 = x.a.toNat % 256 := by
  have hi : i < l.length := (List.getElem?_eq_some_iff.1 h).1
  obtain ⟨h1, h2⟩ := rplace_get l i x h
  unfold rfull
  rw [getD_app (by rw [rhd_len]; omega), getD_app (by rw [rhd_len]; omega)]
  unfold rhd
  rw [List.getD_eq_getElem?_getD, List.getD_eq_getElem?_getD, List.getElem?_append_right (by first | (simp; done) | (simp; omega)), List.getElem?_append_right (by first | (simp; done) | (simp; omega))]
  have e1 : 9 + 2 * i - ([87, 82, 69, 67] ++ [s.toNat / 16777216 % 256, s.toNat / 65536 % 256, s.toNat / 256 % 256, s.toNat % 256, l.length % 256]).length = 2 * i := by simp
  have e2 : 10 + 2 * i - ([87, 82, 69, 67] ++ [s.toNat / 16777216 % 256, s.toNat / 65536 % 256, s.toNat / 256 % 256, s.toNat % 256, l.length % 256]).length = 2 * i + 1 := by first | (simp; done) | (simp; omega)
  rw [e1, e2, h1, h2]
  exact ⟨rfl, rfl⟩
theorem rrows_get {l : List RI} {i : Nat} {x : RI} (h : l[i]? = some x) : (rrows l).getD i [] = x.b := by
  have hi : i < l.length := (List.getElem?_eq_some_iff.1 h).1
  unfold rrows
  rw [List.getD_eq_getElem?_getD, List.getElem?_append_left (by simpa using hi), List.getElem?_map, h]
  rfl
theorem rnum_enc {s : Int} {l : List RI} (h : rok s l = true) : rnum (renc s l) = s := by
  obtain ⟨h1, h2, h3⟩ := (rok_iff s l).1 h
  unfold rnum rseq
  have e : ((renc s l).getD 0 []) = sealed (rfull s l) (rrows l) := rfl
  rw [e]
  have : ((sealed (rfull s l) (rrows l)).drop 4).take 4 = four s.toNat := by
    have : ((sealed (rfull s l) (rrows l)).drop 4).take 4 = (((sealed (rfull s l) (rrows l)).take 28).drop 4).take 4 := by rw [List.take_drop, List.take_drop, List.take_take]; rfl
    rw [this, sealed_take _ (rfull_len s h2)]
    rfl
  rw [this, num_four (by omega)]
  omega
theorem rlist_enc {s : Int} {l : List RI} (h : rok s l = true) : rlist (renc s l) = l := by
  obtain ⟨h1, h2, h3⟩ := (rok_iff s l).1 h
  have hf := rok_fine h
  have e : ((renc s l).getD 0 []) = sealed (rfull s l) (rrows l) := rfl
  have hc : rcount ((renc s l).getD 0 []) = l.length := by
    unfold rcount
    rw [e, sealed_getDL _ (rfull_len s h2) (by decide), rfull_hd s l (by decide)]
    show Nat.min (l.length % 256) 3 = _
    rw [Nat.mod_eq_of_lt (by omega)]
    exact Nat.min_eq_left h2
  unfold rlist
  rw [hc]
  apply List.ext_getElem?
  intro i
  rcases Nat.lt_or_ge i l.length with hi | hi
  · have hx : l[i]? = some l[i] := List.getElem?_eq_getElem hi
    obtain ⟨f1, f2, f3⟩ := (RI.fine_iff _).1 (hf l[i] (List.getElem_mem hi))
    obtain ⟨p1, p2⟩ := rfull_place s hx
    unfold ritems
    rw [List.getElem?_map, List.getElem?_range hi, hx]
    show some (ritem (renc s l) i) = _
    unfold ritem
    rw [e, sealed_getDL _ (rfull_len s h2) (by omega), sealed_getDL _ (rfull_len s h2) (by omega), p1, p2]
    have e2 : (renc s l).getD (1 + i) [] = l[i].b := by
      rw [show 1 + i = i + 1 by omega]
      show (rrows l).getD i [] = _
      exact rrows_get hx
    rw [e2]
    generalize l[i] = x at *
    obtain ⟨d, a, b⟩ := x
    dsimp only at *
    simp only [Option.some.injEq, RI.mk.injEq, and_true]
    omega
  · rw [List.getElem?_eq_none hi, List.getElem?_eq_none (by rw [ritems_len]; exact hi)]
theorem ris_enc {s : Int} {l : List RI} (h : rok s l = true) : ris (renc s l) = true := by
  obtain ⟨h1, h2, h3⟩ := (rok_iff s l).1 h
  rw [ris_iff, rnum_enc h, rlist_enc h]
  exact ⟨⟨renc_len h2, renc_32 h2 (rok_fine h)⟩, h, rfl⟩
theorem renc_inj {s t : Int} {l m : List RI} (h : rok s l = true) (h' : rok t m = true) (e : renc s l = renc t m) : s = t ∧ l = m := by
  constructor
  · rw [← rnum_enc h, ← rnum_enc h', e]
  · rw [← rlist_enc h, ← rlist_enc h', e]
/-- four sectors whose first is sealed with the others -/
def rsealed (ls : List (List Nat)) : Prop := sealed (ls.getD 0 []) ls.tail = ls.getD 0 []
theorem renc_sealed {s : Int} {l : List RI} (h : l.length ≤ 3) : rsealed (renc s l) := sealed_idem _ (rfull_len s h)
theorem ris_sealed {ls : List (List Nat)} (h : ris ls = true) : rsealed ls := by
  obtain ⟨_, h2, h3⟩ := (ris_iff ls).1 h
  have := renc_sealed (s := rnum ls) ((rok_iff _ _).1 h2).2.1
  rwa [h3] at this
/-- one byte of sealed sectors turned, in any of them: they are sealed no more -/
theorem rsealed_turn {ls : List (List Nat)} {k i c : Nat} (h4 : ls.length = 4) (h32 : ∀ b ∈ ls, b.length = 32) (h8 : ∀ b ∈ ls, ∀ c ∈ b, c < 256) (hs : rsealed ls) (hk : k < 4) (hi : i < 32) (hc : c < 256) (h0 : c ≠ 0) :
    ¬ rsealed (ls.set k ((ls.getD k []).set i ((ls.getD k []).getD i 0 ^^^ c))) := by
  match ls, h4 with
  | [a, p, q, r], _ =>
    have a32 : a.length = 32 := h32 a (by simp)
    have a8 : ∀ c ∈ a, c < 256 := h8 a (by simp)
    have hdr : a.drop 28 = four (crc (a.take 28 :: [p, q, r])) := by
      have := congrArg (List.drop 28) hs
      rw [show ([a, p, q, r].getD 0 []) = a from rfl, show [a, p, q, r].tail = [p, q, r] from rfl, sealed_drop _ a32] at this
      exact this.symm
    have lt1 : ∀ b p q r : List Nat, (∀ x ∈ b, x < 256) → (∀ x ∈ p, x < 256) → (∀ x ∈ q, x < 256) → (∀ x ∈ r, x < 256) → crc (b :: [p, q, r]) < 4294967296 := by
      intro b p q r hb hp hq hr
      refine crc_lt ?_
      intro l hl
      simp only [List.mem_cons, List.not_mem_nil, or_false] at hl
      rcases hl with rfl | rfl | rfl | rfl <;> assumption
    have t8 : ∀ x ∈ a.take 28, x < 256 := fun x hx => a8 x (List.mem_of_mem_take hx)
    have p8 : ∀ x ∈ p, x < 256 := h8 p (by simp)
    have q8 : ∀ x ∈ q, x < 256 := h8 q (by simp)
    have r8 : ∀ x ∈ r, x < 256 := h8 r (by simp)
    have hset : ∀ (l : List Nat) (i v : Nat), (∀ x ∈ l, x < 256) → v < 256 → ∀ x ∈ l.set i v, x < 256 := by
      intro l i v hl hv x hx
      rcases List.mem_or_eq_of_mem_set hx with h | h
      · exact hl x h
      · rw [h]; exact hv
    -- what the sum is taken over, as one list
    have core : ∀ (F G : List Nat) (j v : Nat), (∀ x ∈ F, x < 256) → F.length > j → G = F.set j (F.getD j 0 ^^^ c) → crcF 4294967295 G = crcF 4294967295 F → False := by
      intro F G j v hF hj hG hE
      rw [hG] at hE
      have ev : F.getD j 0 = F[j] := by simp [List.getD, hj]
      rw [ev] at hE
      have := crcF_set (by decide) hF hj (Nat.xor_lt_two_pow (n := 8) (hF _ (List.getElem_mem hj)) hc) hE
      exact xor_ne h0 this
    have flat8 : ∀ x ∈ (a.take 28 :: [p, q, r]).flatten, x < 256 := by
      intro x hx
      simp only [List.flatten_cons, List.flatten_nil, List.mem_append, List.not_mem_nil, or_false] at hx
      rcases hx with h | h | h | h
      · exact t8 x h
      · exact p8 x h
      · exact q8 x h
      · exact r8 x h
    have at28 : (a.take 28).length = 28 := by rw [List.length_take]; omega
    have p32 : p.length = 32 := h32 p (by simp)
    have q32 : q.length = 32 := h32 q (by simp)
    have r32 : r.length = 32 := h32 r (by simp)
    intro hn
    have hk' : k = 0 ∨ k = 1 ∨ k = 2 ∨ k = 3 := by omega
    rcases hk' with rfl | rfl | rfl | rfl
    · simp only [rsealed, List.set_cons_zero, List.getD_cons_zero, List.tail_cons] at hn
      have hv : a.getD i 0 ^^^ c < 256 := Nat.xor_lt_two_pow (n := 8) (by rw [List.getD_eq_getElem?_getD, List.getElem?_eq_getElem (by omega)]; exact a8 _ (List.getElem_mem _)) hc
      have hn2 := congrArg (List.drop 28) hn
      rw [sealed_drop _ (by rw [List.length_set]; exact a32)] at hn2
      rcases Nat.lt_or_ge i 28 with hi28 | hi28
      · rw [List.drop_set_of_lt hi28, hdr] at hn2
        have h4 := congrArg num hn2
        rw [num_four (lt1 _ _ _ _ (fun x hx => hset a i _ a8 hv x (List.mem_of_mem_take hx)) p8 q8 r8), num_four (lt1 _ _ _ _ t8 p8 q8 r8)] at h4
        refine core _ _ i 0 flat8 (by simp only [List.flatten_cons, List.length_append, at28]; omega) ?_ (crc_inj h4)
        have e : ((a.take 28 :: [p, q, r]).flatten).getD i 0 = a.getD i 0 := by
          rw [List.flatten_cons, getD_app (by omega), getD_take hi28]
        rw [e, List.flatten_cons, List.take_set, List.flatten_cons (l := a.take 28), List.set_append_left _ _ (by omega)]
      · rw [List.take_set_of_le hi28, ← hdr] at hn2
        have h5 := congrArg (fun l => l[i - 28]?) hn2
        simp only [List.getElem?_drop] at h5
        rw [show 28 + (i - 28) = i by omega, List.getElem?_set_self (by omega), List.getElem?_eq_getElem (by omega)] at h5
        have h6 := (Option.some.inj h5).symm
        rw [List.getD_eq_getElem?_getD, List.getElem?_eq_getElem (by omega)] at h6
        exact xor_ne h0 h6
    all_goals
      simp only [rsealed, List.set_cons_succ, List.set_cons_zero, List.getD_cons_zero, List.getD_cons_succ, List.tail_cons] at hn
      have hn2 := congrArg (List.drop 28) hn
      rw [sealed_drop _ a32, hdr] at hn2
      have h4 := congrArg num hn2
    · have hv : p.getD i 0 ^^^ c < 256 := Nat.xor_lt_two_pow (n := 8) (by rw [List.getD_eq_getElem?_getD, List.getElem?_eq_getElem (by omega)]; exact p8 _ (List.getElem_mem _)) hc
      rw [num_four (lt1 _ _ _ _ t8 (hset p i _ p8 hv) q8 r8), num_four (lt1 _ _ _ _ t8 p8 q8 r8)] at h4
      refine core _ _ (28 + i) 0 flat8 (by simp only [List.flatten_cons, List.length_append, at28, p32]; omega) ?_ (crc_inj h4)
      have e : ((a.take 28 :: [p, q, r]).flatten).getD (28 + i) 0 = p.getD i 0 := by
        simp only [List.flatten_cons, List.getD_eq_getElem?_getD]
        rw [List.getElem?_append_right (by omega), at28, show 28 + i - 28 = i by omega, List.getElem?_append_left (by omega)]
      rw [e]
      simp only [List.flatten_cons, List.flatten_nil]
      rw [List.set_append_right _ _ (by omega), at28, show 28 + i - 28 = i by omega, List.set_append_left _ _ (by omega)]
    · have hv : q.getD i 0 ^^^ c < 256 := Nat.xor_lt_two_pow (n := 8) (by rw [List.getD_eq_getElem?_getD, List.getElem?_eq_getElem (by omega)]; exact q8 _ (List.getElem_mem _)) hc
      rw [num_four (lt1 _ _ _ _ t8 p8 (hset q i _ q8 hv) r8), num_four (lt1 _ _ _ _ t8 p8 q8 r8)] at h4
      refine core _ _ (60 + i) 0 flat8 (by simp only [List.flatten_cons, List.length_append, at28, p32, q32]; omega) ?_ (crc_inj h4)
      have e : ((a.take 28 :: [p, q, r]).flatten).getD (60 + i) 0 = q.getD i 0 := by
        simp only [List.flatten_cons, List.getD_eq_getElem?_getD]
        rw [List.getElem?_append_right (by omega), at28, List.getElem?_append_right (by omega), p32, show 60 + i - 28 - 32 = i by omega, List.getElem?_append_left (by omega)]
      rw [e]
      simp only [List.flatten_cons, List.flatten_nil]
      rw [List.set_append_right _ _ (by omega), at28, List.set_append_right _ _ (by omega), p32, show 60 + i - 28 - 32 = i by omega, List.set_append_left _ _ (by omega)]
    · have hv : r.getD i 0 ^^^ c < 256 := Nat.xor_lt_two_pow (n := 8) (by rw [List.getD_eq_getElem?_getD, List.getElem?_eq_getElem (by omega)]; exact r8 _ (List.getElem_mem _)) hc
      rw [num_four (lt1 _ _ _ _ t8 p8 q8 (hset r i _ r8 hv)), num_four (lt1 _ _ _ _ t8 p8 q8 r8)] at h4
      refine core _ _ (92 + i) 0 flat8 (by simp only [List.flatten_cons, List.length_append, at28, p32, q32, r32]; omega) ?_ (crc_inj h4)
      have e : ((a.take 28 :: [p, q, r]).flatten).getD (92 + i) 0 = r.getD i 0 := by
        simp only [List.flatten_cons, List.getD_eq_getElem?_getD]
        rw [List.getElem?_append_right (by omega), at28, List.getElem?_append_right (by omega), p32, List.getElem?_append_right (by omega), q32, show 92 + i - 28 - 32 - 32 = i by omega, List.getElem?_append_left (by omega)]
      rw [e]
      simp only [List.flatten_cons, List.flatten_nil]
      rw [List.set_append_right _ _ (by omega), at28, List.set_append_right _ _ (by omega), p32, List.set_append_right _ _ (by omega), q32, show 92 + i - 28 - 32 - 32 = i by omega, List.set_append_left _ _ (by omega)]
/-- a record's sectors with one byte turned: they are none's -/
theorem ris_turned {s : Int} {l : List RI} {k i c : Nat} (h : rok s l = true) (h8 : ∀ x ∈ l, ∀ c ∈ x.b, c < 256) (hk : k < 4) (hi : i < 32) (hc : c < 256) (h0 : c ≠ 0) :
    ris ((renc s l).set k (((renc s l).getD k []).set i (((renc s l).getD k []).getD i 0 ^^^ c))) = false := by
  obtain ⟨h1, h2, h3⟩ := (rok_iff s l).1 h
  rw [Bool.eq_false_iff]
  intro hn
  exact rsealed_turn (renc_len h2) (renc_32 h2 (rok_fine h)) (renc_byte h8) (renc_sealed h2) hk hi hc h0 (ris_sealed hn)
end Go.Proofs.Ytenjpldinnbcbaa
