/- The field of 256 elements over plain numbers: products, powers, logs, inverses and their laws. No Go, no memory, no condition. -/
namespace Go.Proofs.Ytknodcaknopcnaa.G

theorem xor_lt {a b n : Nat} (ha : a < 2 ^ n) (hb : b < 2 ^ n) : a ^^^ b < 2 ^ n := Nat.xor_lt_two_pow ha hb
theorem xor8 {a b : Nat} (ha : a < 256) (hb : b < 256) : a ^^^ b < 256 := Nat.xor_lt_two_pow (n := 8) ha hb
theorem xor_swap (a b c d : Nat) : (a ^^^ b) ^^^ (c ^^^ d) = (a ^^^ c) ^^^ (b ^^^ d) := by
  rw [Nat.xor_assoc, Nat.xor_assoc, ← Nat.xor_assoc b c d, Nat.xor_comm b c, Nat.xor_assoc c b d]
theorem xor_eq_zero {a b : Nat} (h : a ^^^ b = 0) : a = b := by
  have := congrArg (· ^^^ b) h
  simpa [Nat.xor_assoc] using this

/-- times 2 -/
def dbl (a : Nat) : Nat := if a ≥ 128 then ((a * 2) % 256) ^^^ 29 else (a * 2) % 256
theorem dbl_lt : ∀ a, a < 256 → dbl a < 256 := by decide +kernel
def allB (n : Nat) (p : Nat → Bool) : Bool := n.all fun i _ => p i
theorem allB_spec {n : Nat} {p : Nat → Bool} (h : allB n p = true) : ∀ i, i < n → p i = true := by
  intro i hi
  unfold allB at h
  rw [Nat.all_eq_finRange_all, List.all_eq_true] at h
  exact h ⟨i, hi⟩ (List.mem_finRange _)
theorem dbl_xor_all : allB 256 (fun a => allB 256 fun b => dbl (a ^^^ b) == dbl a ^^^ dbl b) = true := by decide +kernel
theorem dbl_xor {a b : Nat} (ha : a < 256) (hb : b < 256) : dbl (a ^^^ b) = dbl a ^^^ dbl b := by
  have := allB_spec (allB_spec dbl_xor_all a ha) b hb
  simpa using this
theorem dbl_zero : dbl 0 = 0 := by decide

def mulA : Nat → Nat → Nat → Nat → Nat
  | 0, _, _, o => o
  | k + 1, a, b, o => mulA k (dbl a) (b / 2) (if b % 2 = 1 then o ^^^ a else o)
/-- the product -/
def gm (a b : Nat) : Nat := mulA 8 a b 0

theorem mulA_lt (k : Nat) : ∀ a b o, a < 256 → o < 256 → mulA k a b o < 256 := by
  induction k with
  | zero => intro a b o _ ho; exact ho
  | succ k ih =>
    intro a b o ha ho
    refine ih _ _ _ (dbl_lt a ha) ?_
    split
    · exact xor8 ho ha
    · exact ho
theorem gm_lt {a : Nat} (b : Nat) (ha : a < 256) : gm a b < 256 := mulA_lt 8 a b 0 ha (by decide)
theorem mulA_left (k : Nat) : ∀ a a' b o o', a < 256 → a' < 256 → mulA k (a ^^^ a') b (o ^^^ o') = mulA k a b o ^^^ mulA k a' b o' := by
  induction k with
  | zero => intro a a' b o o' _ _; rfl
  | succ k ih =>
    intro a a' b o o' ha ha'
    simp only [mulA]
    rw [dbl_xor ha ha', ← ih _ _ _ _ _ (dbl_lt a ha) (dbl_lt a' ha')]
    split
    · rw [xor_swap]
    · rfl
theorem gm_xor_left {a a' : Nat} (b : Nat) (ha : a < 256) (ha' : a' < 256) : gm (a ^^^ a') b = gm a b ^^^ gm a' b := by
  have := mulA_left 8 a a' b 0 0 ha ha'
  simpa [gm] using this
theorem xor_mod2 (b b' : Nat) : (b ^^^ b') % 2 = (b % 2 + b' % 2) % 2 := by
  have := Nat.testBit_xor (x := b) (y := b') (i := 0)
  simp only [Nat.testBit_zero] at this
  rcases Nat.mod_two_eq_zero_or_one b with h | h <;> rcases Nat.mod_two_eq_zero_or_one b' with h' | h' <;>
    rcases Nat.mod_two_eq_zero_or_one (b ^^^ b') with h'' | h'' <;> simp_all
theorem xor_div2 (b b' : Nat) : (b ^^^ b') / 2 = (b / 2) ^^^ (b' / 2) := by
  have := Nat.xor_div_two_pow (a := b) (b := b') (n := 1)
  simpa using this
theorem mulA_right (k : Nat) : ∀ a b b' o o', mulA k a (b ^^^ b') (o ^^^ o') = mulA k a b o ^^^ mulA k a b' o' := by
  induction k with
  | zero => intro a b b' o o'; rfl
  | succ k ih =>
    intro a b b' o o'
    simp only [mulA]
    rw [xor_div2, ← ih, xor_mod2]
    congr 1
    rcases Nat.mod_two_eq_zero_or_one b with h | h <;> rcases Nat.mod_two_eq_zero_or_one b' with h' | h' <;> simp only [h, h'] <;> simp
    · rw [← Nat.xor_assoc]
    · rw [Nat.xor_assoc, Nat.xor_assoc, Nat.xor_comm o' a]
    · rw [xor_swap, Nat.xor_self, Nat.xor_zero]
theorem gm_xor_right (a b b' : Nat) : gm a (b ^^^ b') = gm a b ^^^ gm a b' := by
  have := mulA_right 8 a b b' 0 0
  simpa [gm] using this
theorem gm_zero_left (b : Nat) : gm 0 b = 0 := by
  have h := gm_xor_left (a := 0) (a' := 0) b (by decide) (by decide)
  simpa using h
theorem gm_zero_right (a : Nat) : gm a 0 = 0 := by
  have h := gm_xor_right a 0 0
  simpa using h
/-- two additive functions that agree at the powers of 2 agree at all bytes -/
theorem top_bit : ∀ i, i < 8 → ∀ a, a < 256 → 2 ^ i ≤ a → a < 2 ^ (i + 1) → a = 2 ^ i ^^^ (a - 2 ^ i) := by decide +kernel
theorem ext8 {f g : Nat → Nat} (hf : ∀ x y, x < 256 → y < 256 → f (x ^^^ y) = f x ^^^ f y) (hg : ∀ x y, x < 256 → y < 256 → g (x ^^^ y) = g x ^^^ g y)
    (h : ∀ i, i < 8 → f (2 ^ i) = g (2 ^ i)) : ∀ a, a < 256 → f a = g a := by
  have f0 : f 0 = 0 := by have := hf 0 0 (by decide) (by decide); simpa using this
  have g0 : g 0 = 0 := by have := hg 0 0 (by decide) (by decide); simpa using this
  have key : ∀ n, n ≤ 8 → ∀ a, a < 2 ^ n → f a = g a := by
    intro n
    induction n with
    | zero => intro _ a ha; obtain rfl : a = 0 := by simp at ha; exact ha
              rw [f0, g0]
    | succ n ih =>
      intro hn a ha
      by_cases hlt : a < 2 ^ n
      · exact ih (by omega) a hlt
      · have h8 : (2 : Nat) ^ (n + 1) ≤ 2 ^ 8 := Nat.pow_le_pow_right (by decide) hn
        have hp : (2 : Nat) ^ (n + 1) = 2 * 2 ^ n := by rw [Nat.pow_succ]; omega
        have ha8 : a < 256 := by omega
        have e := top_bit n (by omega) a ha8 (by omega) ha
        have hs : a - 2 ^ n < 2 ^ n := by omega
        rw [e, hf _ _ (by omega) (by omega), hg _ _ (by omega) (by omega), h n (by omega), ih (by omega) _ hs]
  exact fun a ha => key 8 (by decide) a ha
theorem gm_comm_basis : ∀ i, i < 8 → ∀ j, j < 8 → gm (2 ^ i) (2 ^ j) = gm (2 ^ j) (2 ^ i) := by decide +kernel
theorem pow_lt8 {i : Nat} (h : i < 8) : 2 ^ i < 256 := Nat.pow_lt_pow_right (a := 2) (by decide) h
theorem gm_comm {a b : Nat} (ha : a < 256) (hb : b < 256) : gm a b = gm b a := by
  refine ext8 (f := fun a => gm a b) (g := fun a => gm b a) (fun x y hx hy => gm_xor_left b hx hy) (fun x y _ _ => gm_xor_right b x y) (fun i hi => ?_) a ha
  exact ext8 (f := fun b => gm (2 ^ i) b) (g := fun b => gm b (2 ^ i)) (fun x y _ _ => gm_xor_right _ x y) (fun x y hx hy => gm_xor_left _ hx hy) (fun j hj => gm_comm_basis i hi j hj) b hb
theorem gm_assoc_basis : ∀ i, i < 8 → ∀ j, j < 8 → ∀ k, k < 8 → gm (2 ^ i) (gm (2 ^ j) (2 ^ k)) = gm (gm (2 ^ i) (2 ^ j)) (2 ^ k) := by decide +kernel
theorem gm_assoc {a b c : Nat} (ha : a < 256) (hb : b < 256) (hc : c < 256) : gm a (gm b c) = gm (gm a b) c := by
  refine ext8 (f := fun a => gm a (gm b c)) (g := fun a => gm (gm a b) c) (fun x y hx hy => gm_xor_left _ hx hy)
    (fun x y hx hy => by show gm (gm (x ^^^ y) b) c = _; rw [gm_xor_left b hx hy, gm_xor_left c (gm_lt _ hx) (gm_lt _ hy)]) (fun i hi => ?_) a ha
  have hi8 := pow_lt8 hi
  refine ext8 (f := fun b => gm (2 ^ i) (gm b c)) (g := fun b => gm (gm (2 ^ i) b) c)
    (fun x y hx hy => by show gm _ (gm (x ^^^ y) c) = _; rw [gm_xor_left c hx hy, gm_xor_right])
    (fun x y hx hy => by show gm (gm _ (x ^^^ y)) c = _; rw [gm_xor_right, gm_xor_left c (gm_lt _ hi8) (gm_lt _ hi8)]) (fun j hj => ?_) b hb
  exact ext8 (f := fun c => gm (2 ^ i) (gm (2 ^ j) c)) (g := fun c => gm (gm (2 ^ i) (2 ^ j)) c)
    (fun x y _ _ => by show gm _ (gm _ (x ^^^ y)) = _; rw [gm_xor_right, gm_xor_right]) (fun x y _ _ => gm_xor_right _ x y) (fun k hk => gm_assoc_basis i hi j hj k hk) c hc
theorem gm_one_right {a : Nat} (ha : a < 256) : gm a 1 = a :=
  ext8 (f := fun a => gm a 1) (g := fun a => a) (fun x y hx hy => gm_xor_left 1 hx hy) (fun _ _ _ _ => rfl) (by decide +kernel) a ha
theorem gm_one_left {a : Nat} (ha : a < 256) : gm 1 a = a := by rw [gm_comm (by decide) ha, gm_one_right ha]
theorem gm_two_right {a : Nat} (ha : a < 256) : gm a 2 = dbl a :=
  ext8 (f := fun a => gm a 2) (g := dbl) (fun x y hx hy => gm_xor_left 2 hx hy) (fun _ _ hx hy => dbl_xor hx hy) (by decide +kernel) a ha

/-- the n-th power of 2 -/
def pw : Nat → Nat
  | 0 => 1
  | n + 1 => dbl (pw n)
theorem pw_lt (n : Nat) : pw n < 256 := by
  induction n with
  | zero => decide
  | succ n ih => exact dbl_lt _ ih
theorem pw_add (m n : Nat) : gm (pw m) (pw n) = pw (m + n) := by
  induction m with
  | zero => rw [Nat.zero_add]; exact gm_one_left (pw_lt n)
  | succ m ih =>
    have e : m + 1 + n = (m + n) + 1 := by omega
    rw [e]
    show gm (dbl (pw m)) (pw n) = dbl (pw (m + n))
    rw [← ih, ← gm_two_right (pw_lt m), ← gm_two_right (gm_lt _ (pw_lt m)), gm_comm (pw_lt m) (by decide), ← gm_assoc (by decide) (pw_lt m) (pw_lt n), gm_comm (a := 2) (by decide) (gm_lt _ (pw_lt m))]
theorem pw_255 : pw 255 = 1 := by decide +kernel
theorem pw_mul255 (k n : Nat) : pw (255 * k + n) = pw n := by
  induction k with
  | zero => simp
  | succ k ih =>
    have e : 255 * (k + 1) + n = 255 + (255 * k + n) := by omega
    rw [e, ← pw_add, pw_255, gm_one_left (pw_lt _), ih]
theorem pw_mod (n : Nat) : pw (n % 255) = pw n := by
  conv => rhs; rw [← Nat.div_add_mod n 255]
  rw [pw_mul255]
/-- the powers of 2 as they come: l[i] = pw i -/
def tab : Nat → Nat → List Nat
  | 0, _ => []
  | n + 1, x => x :: tab n (dbl x)
theorem tab_get (n : Nat) : ∀ j i, i < n → (tab n (pw j))[i]? = some (pw (j + i)) := by
  induction n with
  | zero => intro j i hi; omega
  | succ n ih =>
    intro j i hi
    cases i with
    | zero => rfl
    | succ i =>
      show (tab n (dbl (pw j)))[i]? = _
      have := ih (j + 1) i (by omega)
      rw [show j + (i + 1) = j + 1 + i by omega]
      exact this
theorem tab_len (n : Nat) : ∀ x, (tab n x).length = n := by
  induction n with
  | zero => intro x; rfl
  | succ n ih => intro x; simp [tab, ih]
theorem pw_ne_zero_tab : (tab 255 1).all (· != 0) = true := by decide +kernel
theorem pw_ne_zero (n : Nat) : pw n ≠ 0 := by
  rw [← pw_mod]
  have hn : n % 255 < 255 := Nat.mod_lt _ (by decide)
  have h := tab_get 255 0 (n % 255) hn
  have h2 := List.all_eq_true.1 pw_ne_zero_tab _ (List.mem_of_getElem? h)
  simpa using h2
/-- the log: the first n below 255 at which pw n = a (255: none) -/
def lg (a : Nat) : Nat := (tab 255 1).findIdx (· == a)
theorem lg_all : allB 256 (fun a => a == 0 || (lg a < 255 && (tab 255 1)[lg a]? == some a)) = true := by decide +kernel
theorem lg_lt {a : Nat} (ha : a < 256) (h0 : a ≠ 0) : lg a < 255 := by
  have := allB_spec lg_all a ha
  simp [h0] at this
  exact this.1
theorem pw_lg {a : Nat} (ha : a < 256) (h0 : a ≠ 0) : pw (lg a) = a := by
  have := allB_spec lg_all a ha
  simp [h0] at this
  have h2 := tab_get 255 0 (lg a) this.1
  have h3 : (tab 255 1)[lg a]? = some a := this.2
  have h4 : (tab 255 1)[lg a]? = some (pw (0 + lg a)) := h2
  rw [h3] at h4
  have := Option.some.inj h4
  rw [Nat.zero_add] at this
  exact this.symm
theorem lg_least {a j : Nat} (hj : j < lg a) (h : j < 255) : pw j ≠ a := by
  intro e
  have h2 := tab_get 255 0 j h
  rw [Nat.zero_add] at h2
  have h2' : (tab 255 1)[j]? = some (pw j) := h2
  have := List.not_of_lt_findIdx (xs := tab 255 1) (p := (· == a)) hj
  obtain ⟨hl, he⟩ := List.getElem?_eq_some_iff.1 h2'
  rw [he] at this
  simp [e] at this
theorem lg_zero : lg 0 = 255 := by decide +kernel
theorem tab_nodup : ((tab 255 1).Pairwise (· ≠ ·)) := by decide +kernel
theorem pw_inj {i j : Nat} (hi : i < 255) (hj : j < 255) (h : pw i = pw j) : i = j := by
  have h1 : (tab 255 1)[i]? = some (pw (0 + i)) := tab_get 255 0 i hi
  have h2 : (tab 255 1)[j]? = some (pw (0 + j)) := tab_get 255 0 j hj
  obtain ⟨l1, e1⟩ := List.getElem?_eq_some_iff.1 h1
  obtain ⟨l2, e2⟩ := List.getElem?_eq_some_iff.1 h2
  rw [Nat.zero_add] at e1 e2
  have hp := List.pairwise_iff_getElem.1 tab_nodup
  rcases Nat.lt_trichotomy i j with hlt | heq | hgt
  · exact absurd (e1.trans (h.trans e2.symm)) (hp i j l1 l2 hlt)
  · exact heq
  · exact absurd (e2.trans (h.symm.trans e1.symm)) (hp j i l2 l1 hgt)
theorem lg_pw {i : Nat} (hi : i < 255) : lg (pw i) = i :=
  pw_inj (lg_lt (pw_lt i) (pw_ne_zero i)) hi (pw_lg (pw_lt i) (pw_ne_zero i))
/-- the inverse (of 0: 0) -/
def inv (a : Nat) : Nat := if a = 0 then 0 else pw (255 - lg a)
theorem inv_lt (a : Nat) : inv a < 256 := by unfold inv; split; · decide
                                             · exact pw_lt _
theorem inv_zero : inv 0 = 0 := rfl
theorem inv_ne_zero {a : Nat} (h0 : a ≠ 0) : inv a ≠ 0 := by unfold inv; rw [if_neg h0]; exact pw_ne_zero _
theorem gm_inv {a : Nat} (ha : a < 256) (h0 : a ≠ 0) : gm a (inv a) = 1 := by
  unfold inv; rw [if_neg h0]
  conv => lhs; rw [← pw_lg ha h0]
  rw [lg_pw (lg_lt ha h0), pw_add, show lg a + (255 - lg a) = 255 by have := lg_lt ha h0; omega, pw_255]
theorem inv_gm {a : Nat} (ha : a < 256) (h0 : a ≠ 0) : gm (inv a) a = 1 := by rw [gm_comm (inv_lt a) ha, gm_inv ha h0]
theorem gm_cancel {a b c : Nat} (ha : a < 256) (hb : b < 256) (hc : c < 256) (h0 : a ≠ 0) (h : gm a b = gm a c) : b = c := by
  have h1 : gm (inv a) (gm a b) = gm (inv a) (gm a c) := by rw [h]
  rw [gm_assoc (inv_lt a) ha hb, gm_assoc (inv_lt a) ha hc, inv_gm ha h0, gm_one_left hb, gm_one_left hc] at h1
  exact h1
theorem inv_unique {a x : Nat} (ha : a < 256) (hx : x < 256) (h : gm a x = 1) : x = inv a := by
  have h0 : a ≠ 0 := by intro e; rw [e, gm_zero_left] at h; cases h
  exact gm_cancel ha hx (inv_lt a) h0 (h.trans (gm_inv ha h0).symm)
theorem inv_inv {a : Nat} (ha : a < 256) : inv (inv a) = a := by
  by_cases h0 : a = 0
  · subst h0; rfl
  · exact (inv_unique (inv_lt a) ha (inv_gm ha h0)).symm
theorem gm_ne_zero {a b : Nat} (ha : a < 256) (hb : b < 256) (ha0 : a ≠ 0) (hb0 : b ≠ 0) : gm a b ≠ 0 := by
  intro h
  have := gm_cancel ha hb (by decide : (0 : Nat) < 256) ha0 (h.trans (gm_zero_right a).symm)
  exact hb0 this
/-- the square of a sum -/
theorem gm_sq {a b : Nat} (ha : a < 256) (hb : b < 256) : gm (a ^^^ b) (a ^^^ b) = gm a a ^^^ gm b b := by
  rw [gm_xor_left _ ha hb, gm_xor_right, gm_xor_right, gm_comm hb ha, Nat.xor_comm (gm a b) (gm b b), xor_swap, Nat.xor_self, Nat.xor_zero]
end Go.Proofs.Ytknodcaknopcnaa.G
