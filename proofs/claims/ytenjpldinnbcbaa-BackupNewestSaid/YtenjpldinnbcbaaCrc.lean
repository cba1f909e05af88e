/- CRC-32C over plain numbers: sums of bytes, seals; one byte turned turns the sum. No Go, no memory, no condition. -/
namespace Go.Proofs.Ytenjpldinnbcbaa.C

def st1 (x : Nat) : Nat := if x % 2 = 1 then (x / 2) ^^^ 2197175160 else x / 2
def st : Nat → Nat → Nat
  | 0, x => x
  | n + 1, x => st n (st1 x)
/-- one byte more -/
def up (x c : Nat) : Nat := st 8 (x ^^^ c)
def crcF (x : Nat) (l : List Nat) : Nat := l.foldl up x
/-- the sum of all parts -/
def crc (ls : List (List Nat)) : Nat := crcF 4294967295 ls.flatten ^^^ 4294967295

theorem xor32 {a b : Nat} (ha : a < 4294967296) (hb : b < 4294967296) : a ^^^ b < 4294967296 := Nat.xor_lt_two_pow (n := 32) ha hb
theorem st1_lt {x : Nat} (h : x < 4294967296) : st1 x < 4294967296 := by
  unfold st1; split
  · exact xor32 (by omega) (by decide)
  · omega
theorem st_lt (n : Nat) : ∀ {x : Nat}, x < 4294967296 → st n x < 4294967296 := by
  induction n with
  | zero => intro x h; exact h
  | succ n ih => intro x h; exact ih (st1_lt h)
theorem up_lt {x c : Nat} (h : x < 4294967296) (hc : c < 256) : up x c < 4294967296 := st_lt 8 (xor32 h (by omega))
theorem crcF_lt (l : List Nat) : ∀ {x : Nat}, x < 4294967296 → (∀ c ∈ l, c < 256) → crcF x l < 4294967296 := by
  induction l with
  | nil => intro x h _; exact h
  | cons c l ih => intro x h hl; exact ih (up_lt h (hl c (.head _))) (fun d hd => hl d (.tail _ hd))
theorem crc_lt {ls : List (List Nat)} (h : ∀ l ∈ ls, ∀ c ∈ l, c < 256) : crc ls < 4294967296 :=
  xor32 (crcF_lt _ (by decide) (fun c hc => by obtain ⟨l, hl, hcl⟩ := List.mem_flatten.1 hc; exact h l hl c hcl)) (by decide)
theorem xor_cancel {a b c : Nat} (h : a ^^^ c = b ^^^ c) : a = b := by
  have := congrArg (· ^^^ c) h
  simpa [Nat.xor_assoc] using this
theorem xor_cancel_left {a b c : Nat} (h : c ^^^ a = c ^^^ b) : a = b := by
  rw [Nat.xor_comm c a, Nat.xor_comm c b] at h; exact xor_cancel h
theorem st1_top {x : Nat} (h : x < 4294967296) : (st1 x).testBit 31 = decide (x % 2 = 1) := by
  have hf : (x / 2).testBit 31 = false := Nat.testBit_lt_two_pow (by omega)
  unfold st1
  by_cases hx : x % 2 = 1
  · rw [if_pos hx, Nat.testBit_xor, hf]; simp [hx]; decide
  · rw [if_neg hx, hf]; simp [hx]
theorem st1_inj {x y : Nat} (hx : x < 4294967296) (hy : y < 4294967296) (h : st1 x = st1 y) : x = y := by
  have ht := st1_top hx
  rw [h, st1_top hy] at ht
  have hm : y % 2 = x % 2 := by
    have := decide_eq_decide.1 ht
    rcases Nat.mod_two_eq_zero_or_one x with a | a <;> rcases Nat.mod_two_eq_zero_or_one y with b | b <;> simp_all
  unfold st1 at h
  rw [hm] at h
  by_cases hx2 : x % 2 = 1
  · rw [if_pos hx2, if_pos hx2] at h
    have := xor_cancel h
    omega
  · rw [if_neg hx2, if_neg hx2] at h
    omega
theorem st_inj (n : Nat) : ∀ {x y : Nat}, x < 4294967296 → y < 4294967296 → st n x = st n y → x = y := by
  induction n with
  | zero => intro x y _ _ h; exact h
  | succ n ih => intro x y hx hy h; exact st1_inj hx hy (ih (st1_lt hx) (st1_lt hy) h)
theorem up_inj {x y c : Nat} (hx : x < 4294967296) (hy : y < 4294967296) (hc : c < 256) (h : up x c = up y c) : x = y :=
  xor_cancel (st_inj 8 (xor32 hx (by omega)) (xor32 hy (by omega)) h)
theorem up_inj_byte {x c d : Nat} (hx : x < 4294967296) (hc : c < 256) (hd : d < 256) (h : up x c = up x d) : c = d :=
  xor_cancel_left (st_inj 8 (xor32 hx (by omega)) (xor32 hx (by omega)) h)
theorem crcF_inj (l : List Nat) : ∀ {x y : Nat}, x < 4294967296 → y < 4294967296 → (∀ c ∈ l, c < 256) → crcF x l = crcF y l → x = y := by
  induction l with
  | nil => intro x y _ _ _ h; exact h
  | cons c l ih =>
    intro x y hx hy hl h
    have hc := hl c (.head _)
    exact up_inj hx hy hc (ih (up_lt hx hc) (up_lt hy hc) (fun d hd => hl d (.tail _ hd)) h)
theorem crcF_append (x : Nat) (l m : List Nat) : crcF x (l ++ m) = crcF (crcF x l) m := List.foldl_append
theorem crcF_turn {x c d : Nat} {p s : List Nat} (hx : x < 4294967296) (hp : ∀ c ∈ p, c < 256) (hs : ∀ c ∈ s, c < 256) (hc : c < 256) (hd : d < 256) (h : crcF x (p ++ c :: s) = crcF x (p ++ d :: s)) : c = d := by
  rw [crcF_append, crcF_append] at h
  have hx' := crcF_lt p hx hp
  exact up_inj_byte hx' hc hd (crcF_inj s (up_lt hx' hc) (up_lt hx' hd) hs h)
/-- one byte turned turns the sum -/
theorem crcF_set {x i c : Nat} {l : List Nat} (hx : x < 4294967296) (hl : ∀ c ∈ l, c < 256) (hi : i < l.length) (hc : c < 256) (h : crcF x (l.set i c) = crcF x l) : c = l[i] := by
  have e1 : l = l.take i ++ l[i] :: l.drop (i + 1) := by rw [List.getElem_cons_drop, List.take_append_drop]
  have e2 : l.set i c = l.take i ++ c :: l.drop (i + 1) := by rw [List.set_eq_take_append_cons_drop, if_pos hi]
  rw [e2] at h
  conv at h => rhs; rw [e1]
  exact crcF_turn hx (fun c hc => hl c (List.mem_of_mem_take hc)) (fun c hc => hl c (List.mem_of_mem_drop hc)) hc (hl _ (List.getElem_mem hi)) h
theorem crc_inj {ls ms : List (List Nat)} (h : crc ls = crc ms) : crcF 4294967295 ls.flatten = crcF 4294967295 ms.flatten := xor_cancel h

/-- four bytes of a number, the greatest first -/
def four (x : Nat) : List Nat := [x / 16777216 % 256, x / 65536 % 256, x / 256 % 256, x % 256]
def num (l : List Nat) : Nat := l.foldl (fun x c => x * 256 + c) 0
theorem four_len (x : Nat) : (four x).length = 4 := rfl
theorem four_byte (x : Nat) : ∀ c ∈ four x, c < 256 := by
  intro c hc
  simp [four] at hc
  omega
theorem num_four {x : Nat} (h : x < 4294967296) : num (four x) = x := by
  simp [num, four]
  omega
theorem four_num {a b c d : Nat} (ha : a < 256) (hb : b < 256) (hc : c < 256) (hd : d < 256) : four (num [a, b, c, d]) = [a, b, c, d] := by
  simp [num, four]
  omega
theorem four_num' {l : List Nat} (h4 : l.length = 4) (hl : ∀ c ∈ l, c < 256) : four (num l) = l := by
  match l, h4 with
  | [a, b, c, d], _ => exact four_num (hl a (by simp)) (hl b (by simp)) (hl c (by simp)) (hl d (by simp))
/-- a sector with its sum in the last four bytes -/
def sealed (b : List Nat) (ls : List (List Nat)) : List Nat := b.take 28 ++ four (crc (b.take 28 :: ls))
def rightB (b : List Nat) (ls : List (List Nat)) : Bool := b.length == 32 && num (b.drop 28) == crc (b.take 28 :: ls)
theorem sealed_len {b : List Nat} (ls : List (List Nat)) (h : b.length = 32) : (sealed b ls).length = 32 := by simp [sealed, four_len, h]
theorem sealed_byte {b : List Nat} {ls : List (List Nat)} (h : ∀ c ∈ b, c < 256) : ∀ c ∈ sealed b ls, c < 256 := by
  intro c hc
  rcases List.mem_append.1 hc with h1 | h1
  · exact h c (List.mem_of_mem_take h1)
  · exact four_byte _ c h1
theorem sealed_take {b : List Nat} (ls : List (List Nat)) (h : b.length = 32) : (sealed b ls).take 28 = b.take 28 := by
  unfold sealed; rw [List.take_append_of_le_length (by simp [h]), List.take_take]; rfl
theorem sealed_drop {b : List Nat} (ls : List (List Nat)) (h : b.length = 32) : (sealed b ls).drop 28 = four (crc (b.take 28 :: ls)) := by
  unfold sealed; rw [List.drop_append]; simp [h]
theorem sealed_idem {b : List Nat} (ls : List (List Nat)) (h : b.length = 32) : sealed (sealed b ls) ls = sealed b ls := by
  show (sealed b ls).take 28 ++ four (crc ((sealed b ls).take 28 :: ls)) = _
  rw [sealed_take ls h]; rfl
theorem right_iff {b : List Nat} {ls : List (List Nat)} (hb : ∀ c ∈ b, c < 256) (hl : ∀ l ∈ ls, ∀ c ∈ l, c < 256) : rightB b ls = true ↔ b.length = 32 ∧ sealed b ls = b := by
  have hlt : crc (b.take 28 :: ls) < 4294967296 := crc_lt (by
    intro l h c hc
    cases h with
    | head => exact hb c (List.mem_of_mem_take hc)
    | tail _ h => exact hl l h c hc)
  unfold rightB
  simp only [Bool.and_eq_true, beq_iff_eq]
  constructor
  · rintro ⟨h1, h2⟩
    refine ⟨h1, ?_⟩
    unfold sealed
    rw [← h2, four_num' (by simp [h1]) (fun c hc => hb c (List.mem_of_mem_drop hc)), List.take_append_drop]
  · rintro ⟨h1, h2⟩
    refine ⟨h1, ?_⟩
    have := sealed_drop ls h1
    rw [h2] at this
    rw [this, num_four hlt]
theorem right_sealed {b : List Nat} {ls : List (List Nat)} (h : b.length = 32) (hb : ∀ c ∈ b, c < 256) (hl : ∀ l ∈ ls, ∀ c ∈ l, c < 256) : rightB (sealed b ls) ls = true :=
  (right_iff (sealed_byte hb) hl).2 ⟨sealed_len ls h, sealed_idem ls h⟩
end Go.Proofs.Ytenjpldinnbcbaa.C
