/- Supers over plain numbers: which may be, their sectors, back again. No Go, no memory, no condition. -/
import Derived.Test.YtgnnkglmlopldaaGeo
import Derived.Test.YtgnnkglmlopldaaCrc
namespace Go.Proofs.Ytgnnkglmlopldaa
open C

/-- is a number from one to another? -/
def inB (n lo hi : Int) : Bool := decide (lo ≤ n ∧ n ≤ hi)
theorem inB_iff (n lo hi : Int) : inB n lo hi = true ↔ lo ≤ n ∧ n ≤ hi := by unfold inB; exact decide_eq_true_iff
theorem inB_not (n lo hi : Int) : inB n lo hi = false ↔ ¬ (lo ≤ n ∧ n ≤ hi) := by unfold inB; exact decide_eq_false_iff_not
structure Sup where
  gen : Int
  a : Geo
  b : Geo
  run : Bool
  win : Int
  ep : Int
  out : Int
def Sup.zero : Sup := ⟨0, Geo.zero, Geo.zero, false, 0, 0, 0⟩
structure Sup.In (s : Sup) : Prop where
  gen : i64b s.gen
  a : s.a.In
  b : s.b.In
  win : i64b s.win
  ep : i64b s.ep
  out : i64b s.out
/-- what hangs on whether it runs -/
def Sup.okRun (s : Sup) : Bool := if s.run then s.a.can s.b && inB s.win 0 16 else s.b.same Geo.zero && (s.win == 0)
def Sup.ok (s : Sup) : Bool := inB s.gen 1 2147483647 && s.a.ok && s.okRun && inB s.ep 0 65535 && inB s.out 0 255
def Sup.err (s : Sup) : Int := if s.ok then 0 else 1
theorem Sup.err_yes {s : Sup} (h : s.ok = true) : s.err = 0 := by unfold Sup.err; rw [if_pos h]
theorem Sup.err_no {s : Sup} (h : s.ok = false) : s.err = 1 := by unfold Sup.err; rw [if_neg (by rw [h]; decide)]
def Sup.same (s t : Sup) : Bool := (s.gen == t.gen) && s.a.same t.a && s.b.same t.b && (s.run == t.run) && (s.win == t.win) && (s.ep == t.ep) && (s.out == t.out)
theorem Sup.same_iff (s t : Sup) : s.same t = true ↔ s = t := by
  cases s; cases t
  unfold Sup.same
  simp only [Bool.and_eq_true, beq_iff_eq, Geo.same_iff, Sup.mk.injEq]
  constructor
  · rintro ⟨⟨⟨⟨⟨⟨h1, h2⟩, h3⟩, h4⟩, h5⟩, h6⟩, h7⟩; exact ⟨h1, h2, h3, h4, h5, h6, h7⟩
  · rintro ⟨h1, h2, h3, h4, h5, h6, h7⟩; exact ⟨⟨⟨⟨⟨⟨h1, h2⟩, h3⟩, h4⟩, h5⟩, h6⟩, h7⟩
theorem Sup.ok_iff (s : Sup) : s.ok = true ↔ (1 ≤ s.gen ∧ s.gen ≤ 2147483647) ∧ s.a.ok = true ∧ s.okRun = true ∧ (0 ≤ s.ep ∧ s.ep ≤ 65535) ∧ (0 ≤ s.out ∧ s.out ≤ 255) := by
  unfold Sup.ok
  simp only [Bool.and_eq_true, inB_iff]
  constructor
  · rintro ⟨⟨⟨⟨h1, h2⟩, h3⟩, h4⟩, h5⟩; exact ⟨h1, h2, h3, h4, h5⟩
  · rintro ⟨h1, h2, h3, h4, h5⟩; exact ⟨⟨⟨⟨h1, h2⟩, h3⟩, h4⟩, h5⟩
theorem Geo.can_ok {a b : Geo} (h : a.can b = true) : b.ok = true := by
  unfold Geo.can at h
  simp only [Bool.and_eq_true] at h
  exact h.1.1.2
theorem Sup.ok_more {s : Sup} (h : s.ok = true) : s.a.ok = true ∧ (s.b.ok = true ∨ s.b = Geo.zero) ∧ 0 ≤ s.win ∧ s.win ≤ 16 := by
  obtain ⟨h1, h2, h3, h4, h5⟩ := (Sup.ok_iff s).1 h
  refine ⟨h2, ?_⟩
  unfold Sup.okRun at h3
  split at h3
  · simp only [Bool.and_eq_true, inB_iff] at h3
    exact ⟨.inl (Geo.can_ok h3.1), h3.2⟩
  · simp only [Bool.and_eq_true, beq_iff_eq, Geo.same_iff] at h3
    exact ⟨.inr h3.1, by omega, by omega⟩
theorem Geo.zero_in : Geo.zero.In := ⟨⟨by decide, by decide⟩, ⟨by decide, by decide⟩, ⟨by decide, by decide⟩⟩
theorem Sup.ok_in {s : Sup} (h : s.ok = true) : s.In := by
  obtain ⟨h1, h2, h3, h4, h5⟩ := (Sup.ok_iff s).1 h
  obtain ⟨k1, k2, k3⟩ := Sup.ok_more h
  refine ⟨⟨by omega, by omega⟩, Geo.ok_in k1, ?_, ⟨by omega, by omega⟩, ⟨by omega, by omega⟩, ⟨by omega, by omega⟩⟩
  rcases k2 with k2 | k2
  · exact Geo.ok_in k2
  · rw [k2]; exact Geo.zero_in
/-- a geometry's bytes -/
def Geo.bytes (g : Geo) : List Nat := [g.l.toNat % 256, g.d.toNat % 256, g.c.toNat % 256]
/-- a Super's bytes ahead of the sum -/
def Sup.head (s : Sup) : List Nat := [87, 83, 85, 80] ++ four s.gen.toNat
def Sup.tail (s : Sup) : List Nat := [if s.run then 1 else 0, s.win.toNat % 256, s.ep.toNat / 256 % 256, s.ep.toNat % 256, s.out.toNat % 256]
def Sup.body (s : Sup) : List Nat := s.head ++ s.a.bytes ++ s.b.bytes ++ s.tail
def Sup.full (s : Sup) : List Nat := s.body ++ List.replicate 13 0
/-- its sector -/
def Sup.enc (s : Sup) : List Nat := sealed s.full []
theorem Sup.body_len (s : Sup) : s.body.length = 19 := rfl
theorem Sup.full_len (s : Sup) : s.full.length = 32 := by unfold Sup.full; rw [List.length_append, s.body_len]; rfl
theorem Sup.enc_len (s : Sup) : s.enc.length = 32 := sealed_len [] s.full_len
theorem Sup.full_byte (s : Sup) : ∀ c ∈ s.full, c < 256 := by
  intro c hc
  unfold Sup.full at hc
  rcases List.mem_append.1 hc with h | h
  · simp only [Sup.body, Sup.head, Sup.tail, Geo.bytes, four, List.cons_append, List.nil_append, List.mem_cons, List.not_mem_nil, or_false] at h
    rcases h with h | h | h | h | h | h | h | h | h | h | h | h | h | h | h | h | h | h | h
    all_goals first
      | omega
      | (split at h <;> omega)
  · rw [List.eq_of_mem_replicate h]; decide
theorem Sup.enc_byte (s : Sup) : ∀ c ∈ s.enc, c < 256 := sealed_byte s.full_byte
/-- what bytes tell -/
def Sup.parse (l : List Nat) : Sup :=
  ⟨(num ((l.drop 4).take 4) : Nat), ⟨(l.getD 8 0 : Nat), (l.getD 9 0 : Nat), (l.getD 10 0 : Nat)⟩, ⟨(l.getD 11 0 : Nat), (l.getD 12 0 : Nat), (l.getD 13 0 : Nat)⟩, l.getD 14 0 == 1, (l.getD 15 0 : Nat), (l.getD 16 0 * 256 + l.getD 17 0 : Nat), (l.getD 18 0 : Nat)⟩
/-- is a sector one? -/
def Sup.is (l : List Nat) : Bool := decide (l.length = 32) && (Sup.parse l).ok && decide ((Sup.parse l).enc = l)
theorem Sup.is_iff (l : List Nat) : Sup.is l = true ↔ l.length = 32 ∧ (Sup.parse l).ok = true ∧ (Sup.parse l).enc = l := by
  unfold Sup.is; simp only [Bool.and_eq_true, decide_eq_true_eq, and_assoc]
theorem getD_app {l m : List Nat} {k : Nat} (h : k < l.length) : (l ++ m).getD k 0 = l.getD k 0 := by
  simp [List.getD, List.getElem?_append_left h]
theorem Sup.enc_take (s : Sup) : s.enc.take 28 = s.full.take 28 := sealed_take [] s.full_len
theorem getD_take {l : List Nat} {k n : Nat} (h : k < n) : (l.take n).getD k 0 = l.getD k 0 := by
  simp [List.getD, List.getElem?_take_of_lt h]
theorem Sup.enc_getD (s : Sup) {k : Nat} (h : k < 19) : s.enc.getD k 0 = s.body.getD k 0 := by
  rw [← getD_take (n := 28) (by omega), s.enc_take, getD_take (by omega)]
  exact getD_app (by rw [s.body_len]; exact h)
theorem Geo.bytes_back {g : Geo} (h : g.ok = true ∨ g = Geo.zero) : (⟨((g.l.toNat % 256 : Nat) : Int), ((g.d.toNat % 256 : Nat) : Int), ((g.c.toNat % 256 : Nat) : Int)⟩ : Geo) = g := by
  rcases h with h | h
  · obtain ⟨h1, h2, h3⟩ := (Geo.ok_iff g).1 h
    rw [Geo.eq_iff]
    refine ⟨?_, ?_, ?_⟩ <;> dsimp only <;> omega
  · rw [h]; rfl
theorem Sup.parse_enc {s : Sup} (h : s.ok = true) : Sup.parse s.enc = s := by
  obtain ⟨h1, h2, h3, h4, h5⟩ := (Sup.ok_iff s).1 h
  obtain ⟨k1, k2, k3, k4⟩ := Sup.ok_more h
  have hn : (s.enc.drop 4).take 4 = four s.gen.toNat := by
    have : (s.enc.drop 4).take 4 = ((s.enc.take 28).drop 4).take 4 := by rw [List.take_drop, List.take_drop, List.take_take]; rfl
    rw [this, s.enc_take]
    rfl
  unfold Sup.parse
  rw [hn, num_four (by omega)]
  simp only [s.enc_getD (show 8 < 19 by decide), s.enc_getD (show 9 < 19 by decide), s.enc_getD (show 10 < 19 by decide), s.enc_getD (show 11 < 19 by decide), s.enc_getD (show 12 < 19 by decide), s.enc_getD (show 13 < 19 by decide), s.enc_getD (show 14 < 19 by decide), s.enc_getD (show 15 < 19 by decide), s.enc_getD (show 16 < 19 by decide), s.enc_getD (show 17 < 19 by decide), s.enc_getD (show 18 < 19 by decide)]
  have e8 : s.body.getD 8 0 = s.a.l.toNat % 256 := rfl
  have e9 : s.body.getD 9 0 = s.a.d.toNat % 256 := rfl
  have e10 : s.body.getD 10 0 = s.a.c.toNat % 256 := rfl
  have e11 : s.body.getD 11 0 = s.b.l.toNat % 256 := rfl
  have e12 : s.body.getD 12 0 = s.b.d.toNat % 256 := rfl
  have e13 : s.body.getD 13 0 = s.b.c.toNat % 256 := rfl
  have e14 : s.body.getD 14 0 = if s.run then 1 else 0 := rfl
  have e15 : s.body.getD 15 0 = s.win.toNat % 256 := rfl
  have e16 : s.body.getD 16 0 = s.ep.toNat / 256 % 256 := rfl
  have e17 : s.body.getD 17 0 = s.ep.toNat % 256 := rfl
  have e18 : s.body.getD 18 0 = s.out.toNat % 256 := rfl
  rw [e8, e9, e10, e11, e12, e13, e14, e15, e16, e17, e18, Geo.bytes_back (.inl k1), Geo.bytes_back k2]
  obtain ⟨gen, a, b, run, win, ep, out⟩ := s
  simp only [Sup.mk.injEq, true_and]
  dsimp only at *
  refine ⟨by omega, ?_, by omega, by omega, by omega⟩
  cases run <;> rfl
theorem Sup.is_enc {s : Sup} (h : s.ok = true) : Sup.is s.enc = true := by
  rw [Sup.is_iff, Sup.parse_enc h]; exact ⟨s.enc_len, h, rfl⟩
theorem Sup.enc_inj {s t : Sup} (hs : s.ok = true) (ht : t.ok = true) (h : s.enc = t.enc) : s = t := by
  rw [← Sup.parse_enc hs, ← Sup.parse_enc ht, h]
theorem Sup.enc_sealed (s : Sup) : sealed s.enc [] = s.enc := sealed_idem [] s.full_len
theorem Sup.is_sealed {l : List Nat} (h : Sup.is l = true) : sealed l [] = l := by
  obtain ⟨_, _, h3⟩ := (Sup.is_iff l).1 h
  rw [← h3]; exact Sup.enc_sealed _
/-- one byte of a sealed sector turned: it is sealed no more -/
theorem sealed_turn {s : List Nat} {i c : Nat} (hl : s.length = 32) (hs : ∀ x ∈ s, x < 256) (hss : sealed s [] = s) (hi : i < s.length) (hx : c < 256) (hne : c ≠ s[i]) : sealed (s.set i c) [] ≠ s.set i c := by
  intro h
  rcases Nat.lt_or_ge i 28 with hi28 | hi28
  · have e1 : (s.set i c).take 28 = (s.take 28).set i c := by rw [List.take_set]
    have e2 : (s.set i c).drop 28 = s.drop 28 := by rw [List.drop_set_of_lt hi28]
    have h2 := congrArg (List.drop 28) h
    rw [sealed_drop _ (by rw [List.length_set]; exact hl), e1, e2] at h2
    have h3 := congrArg (List.drop 28) hss
    rw [sealed_drop _ hl] at h3
    have ht : ∀ x ∈ s.take 28, x < 256 := fun x hx => hs x (List.mem_of_mem_take hx)
    have ht' : ∀ x ∈ (s.take 28).set i c, x < 256 := fun x hx2 => by
      rcases List.mem_or_eq_of_mem_set hx2 with h | h
      · exact ht x h
      · rw [h]; exact hx
    have hl1 : crc [s.take 28] < 4294967296 := crc_lt (by intro l hl; simp at hl; rcases hl with rfl; exact ht)
    have hl2 : crc [(s.take 28).set i c] < 4294967296 := crc_lt (by intro l hl; simp at hl; rcases hl with rfl; exact ht')
    have h4 := congrArg num (h2.trans h3.symm)
    rw [num_four hl1, num_four hl2] at h4
    have h5 := crc_inj h4
    simp only [List.flatten_cons, List.flatten_nil, List.append_nil] at h5
    have hit : i < (s.take 28).length := by rw [List.length_take]; omega
    have h7 := crcF_set (by decide) ht hit hx h5
    rw [List.getElem_take] at h7
    exact hne h7
  · have e1 : (s.set i c).take 28 = s.take 28 := by rw [List.take_set_of_le hi28]
    have h2 : sealed (s.set i c) [] = sealed s [] := by unfold sealed; rw [e1]
    rw [h2, hss] at h
    have h3 := congrArg (fun l => l[i]?) h
    rw [List.getElem?_set_self hi, List.getElem?_eq_getElem hi] at h3
    exact hne (Option.some.inj h3).symm
theorem xor_ne {a c : Nat} (h0 : c ≠ 0) : a ^^^ c ≠ a := by
  intro h
  have h7 : a ^^^ (a ^^^ c) = a ^^^ a := by rw [h]
  rw [← Nat.xor_assoc, Nat.xor_self, Nat.zero_xor] at h7
  exact h0 h7
/-- one byte of a Super's sector turned: it is none -/
theorem Sup.turned {s : Sup} {i c : Nat} (hi : i < s.enc.length) (hc : c < 256) (h0 : c ≠ 0) : Sup.is (s.enc.set i (s.enc[i] ^^^ c)) = false := by
  rw [Bool.eq_false_iff]
  intro h
  exact sealed_turn s.enc_len s.enc_byte s.enc_sealed hi (Nat.xor_lt_two_pow (n := 8) (s.enc_byte _ (List.getElem_mem hi)) hc) (xor_ne h0) (Sup.is_sealed h)
end Go.Proofs.Ytgnnkglmlopldaa
