/- Merged: Sup, SupC, App, SupE, SupG. -/
import Derived.Test.YtenjpldinnbcbaaGeoA
import Derived.Test.YtenjpldinnbcbaaCrcA
import Derived.Test.YtenjpldinnbcbaaGeom3
import Derived.Test.YtenjpldinnbcbaaMoreF
import Derived.Laws.OwnMore
import Derived.ArgAppend
import Derived.Deep.CutRange
/- Supers over plain numbers: which may be, their sectors, back again. No Go, no memory, no condition. -/

namespace Go.Proofs.Ytenjpldinnbcbaa
open C

/-- is a number from one to another? -/
def inB (n lo hi : Int) : Bool := decide (lo ≤ n ∧ n ≤ hi)
theorem inB_iff (n lo hi : Int) : inB n lo hi = true ↔ lo ≤ n ∧ n ≤ hi := by unfold inB; exact decide_eq_true_iff
theorem inB_not (n lo hi : Int) : inB n lo hi = false ↔ ¬ (lo ≤ n ∧ n ≤ hi) := by unfold inB; exact decide_eq_false_iff_not
structure Sup where
  gen : Int
  a : Geo
  b : Geo
  run : Bool
  win : Int
  ep : Int
  out : Int
def Sup.zero : Sup := ⟨0, Geo.zero, Geo.zero, false, 0, 0, 0⟩
structure Sup.In (s : Sup) : Prop where
  gen : i64b s.gen
  a : s.a.In
  b : s.b.In
  win : i64b s.win
  ep : i64b s.ep
  out : i64b s.out
/-- what hangs on whether it runs -/
def Sup.okRun (s : Sup) : Bool := if s.run then s.a.can s.b && inB s.win 0 16 else s.b.same Geo.zero && (s.win == 0)
def Sup.ok (s : Sup) : Bool := inB s.gen 1 2147483647 && s.a.ok && s.okRun && inB s.ep 0 65535 && inB s.out 0 255
def Sup.err (s : Sup) : Int := if s.ok then 0 else 1
theorem Sup.err_yes {s : Sup} (h : s.ok = true) : s.err = 0 := by unfold Sup.err; rw [if_pos h]
theorem Sup.err_no {s : Sup} (h : s.ok = false) : s.err = 1 := by unfold Sup.err; rw [if_neg (by rw [h]; decide)]
def Sup.same (s t : Sup) : Bool := (s.gen == t.gen) && s.a.same t.a && s.b.same t.b && (s.run == t.run) && (s.win == t.win) && (s.ep == t.ep) && (s.out == t.out)
theorem Sup.same_iff (s t : Sup) : s.same t = true ↔ s = t := by
  cases s; cases t
  unfold Sup.same
  simp only [Bool.and_eq_true, beq_iff_eq, Geo.same_iff, Sup.mk.injEq]
  constructor
  · rintro ⟨⟨⟨⟨⟨⟨h1, h2⟩, h3⟩, h4⟩, h5⟩, h6⟩, h7⟩; exact ⟨h1, h2, h3, h4, h5, h6, h7⟩
  · rintro ⟨h1, h2, h3, h4, h5, h6, h7⟩; exact ⟨⟨⟨⟨⟨⟨h1, h2⟩, h3⟩, h4⟩, h5⟩, h6⟩, h7⟩
theorem Sup.ok_iff (s : Sup) : s.ok = true ↔ (1 ≤ s.gen ∧ s.gen ≤ 2147483647) ∧ s.a.ok = true ∧ s.okRun = true ∧ (0 ≤ s.ep ∧ s.ep ≤ 65535) ∧ (0 ≤ s.out ∧ s.out ≤ 255) := by
  unfold Sup.ok
  simp only [Bool.and_eq_true, inB_iff]
  constructor
  · rintro ⟨⟨⟨⟨h1, h2⟩, h3⟩, h4⟩, h5⟩; exact ⟨h1, h2, h3, h4, h5⟩
  · rintro ⟨h1, h2, h3, h4, h5⟩; exact ⟨⟨⟨⟨h1, h2⟩, h3⟩, h4⟩, h5⟩
theorem Geo.can_ok {a b : Geo} (h : a.can b = true) : b.ok = true := by
  unfold Geo.can at h
  simp only [Bool.and_eq_true] at h
  exact h.1.1.2
theorem Sup.ok_more {s : Sup} (h : s.ok = true) : s.a.ok = true ∧ (s.b.ok = true ∨ s.b = Geo.zero) ∧ 0 ≤ s.win ∧ s.win ≤ 16 := by
  obtain ⟨h1, h2, h3, h4, h5⟩ := (Sup.ok_iff s).1 h
  refine ⟨h2, ?_⟩
  unfold Sup.okRun at h3
  split at h3
  · simp only [Bool.and_eq_true, inB_iff] at h3
    exact ⟨.inl (Geo.can_ok h3.1), h3.2⟩
  · simp only [Bool.and_eq_true, beq_iff_eq, Geo.same_iff] at h3
    exact ⟨.inr h3.1, by omega, by omega⟩
theorem Geo.zero_in : Geo.zero.In := ⟨⟨by decide, by decide⟩, ⟨by decide, by decide⟩, ⟨by decide, by decide⟩⟩
theorem Sup.ok_in {s : Sup} (h : s.ok = true) : s.In := by
  obtain ⟨h1, h2, h3, h4, h5⟩ := (Sup.ok_iff s).1 h
  obtain ⟨k1, k2, k3⟩ := Sup.ok_more h
  refine ⟨⟨by omega, by omega⟩, Geo.ok_in k1, ?_, ⟨by omega, by omega⟩, ⟨by omega, by omega⟩, ⟨by omega, by omega⟩⟩
  rcases k2 with k2 | k2
  · exact Geo.ok_in k2
  · rw [k2]; exact Geo.zero_in
/-- a geometry's bytes -/
def Geo.bytes (g : Geo) : List Nat := [g.l.toNat % 256, g.d.toNat % 256, g.c.toNat % 256]
/-- a Super's bytes ahead of the sum -/
def Sup.head (s : Sup) : List Nat := [87, 83, 85, 80] ++ four s.gen.toNat
def Sup.tail (s : Sup) : List Nat := [if s.run then 1 else 0, s.win.toNat % 256, s.ep.toNat / 256 % 256, s.ep.toNat % 256, s.out.toNat % 256]
def Sup.body (s : Sup) : List Nat := s.head ++ s.a.bytes ++ s.b.bytes ++ s.tail
def Sup.full (s : Sup) : List Nat := s.body ++ List.replicate 13 0
/-- its sector -/
def Sup.enc (s : Sup) : List Nat := sealed s.full []
theorem Sup.body_len (s : Sup) : s.body.length = 19 := rfl
theorem Sup.full_len (s : Sup) : s.full.length = 32 := by unfold Sup.full; rw [List.length_append, s.body_len]; rfl
theorem Sup.enc_len (s : Sup) : s.enc.length = 32 := sealed_len [] s.full_len
theorem Sup.full_byte (s : Sup) : ∀ c ∈ s.full, c < 256 := by
  intro c hc
  unfold Sup.full at hc
  rcases List.mem_append.1 hc with h | h
  · simp only [Sup.body, Sup.head, Sup.tail, Geo.bytes, four, List.cons_append, List.nil_append, List.mem_cons, List.not_mem_nil, or_false] at h
    rcases h with h | h | h | h | h | h | h | h | h | h | h | h | h | h | h | h | h | h | h
    all_goals first
      | omega
      | (split at h <;> omega)
  · rw [List.eq_of_mem_replicate h]; decide
theorem Sup.enc_byte (s : Sup) : ∀ c ∈ s.enc, c < 256 := sealed_byte s.full_byte
/-- what bytes tell -/
def Sup.parse (l : List Nat) : Sup :=
  ⟨(num ((l.drop 4).take 4) : Nat), ⟨(l.getD 8 0 : Nat), (l.getD 9 0 : Nat), (l.getD 10 0 : Nat)⟩, ⟨(l.getD 11 0 : Nat), (l.getD 12 0 : Nat), (l.getD 13 0 : Nat)⟩, l.getD 14 0 == 1, (l.getD 15 0 : Nat), (l.getD 16 0 * 256 + l.getD 17 0 : Nat), (l.getD 18 0 : Nat)⟩
/-- is a sector one? -/
def Sup.is (l : List Nat) : Bool := decide (l.length = 32) && (Sup.parse l).ok && decide ((Sup.parse l).enc = l)
theorem Sup.is_iff (l : List Nat) : Sup.is l = true ↔ l.length = 32 ∧ (Sup.parse l).ok = true ∧ (Sup.parse l).enc = l := by
  unfold Sup.is; simp only [Bool.and_eq_true, decide_eq_true_eq, and_assoc]
theorem getD_app {l m : List Nat} {k : Nat} (h : k < l.length) : (l ++ m).getD k 0 = l.getD k 0 := by
  simp [List.getD, List.getElem?_append_left h]
theorem Sup.enc_take (s : Sup) : s.enc.take 28 = s.full.take 28 := sealed_take [] s.full_len
theorem getD_take {l : List Nat} {k n : Nat} (h : k < n) : (l.take n).getD k 0 = l.getD k 0 := by
  simp [List.getD, List.getElem?_take_of_lt h]
theorem Sup.enc_getD (s : Sup) {k : Nat} (h : k < 19) : s.enc.getD k 0 = s.body.getD k 0 := by
  rw [← getD_take (n := 28) (by omega), s.enc_take, getD_take (by omega)]
  exact getD_app (by rw [s.body_len]; exact h)
theorem Geo.bytes_back {g : Geo} (h : g.ok = true ∨ g = Geo.zero) : (⟨((g.l.toNat % 256 : Nat) : Int), ((g.d.toNat % 256 : Nat) : Int), ((g.c.toNat % 256 : Nat) : Int)⟩ : Geo) = g := by
  rcases h with h | h
  · obtain ⟨h1, h2, h3⟩ := (Geo.ok_iff g).1 h
    rw [Geo.eq_iff]
    refine ⟨?_, ?_, ?_⟩ <;> dsimp only <;> omega
  · rw [h]; rfl
theorem Sup.parse_enc {s : Sup} (h : s.ok = true) : Sup.parse s.enc = s := by
  obtain ⟨h1, h2, h3, h4, h5⟩ := (Sup.ok_iff s).1 h
  obtain ⟨k1, k2, k3, k4⟩ := Sup.ok_more h
  have hn : (s.enc.drop 4).take 4 = four s.gen.toNat := by
    have : (s.enc.drop 4).take 4 = ((s.enc.take 28).drop 4).take 4 := by rw [List.take_drop, List.take_drop, List.take_take]; rfl
    rw [this, s.enc_take]
    rfl
  unfold Sup.parse
  rw [hn, num_four (by omega)]
  simp only [s.enc_getD (show 8 < 19 by decide), s.enc_getD (show 9 < 19 by decide), s.enc_getD (show 10 < 19 by decide), s.enc_getD (show 11 < 19 by decide), s.enc_getD (show 12 < 19 by decide), s.enc_getD (show 13 < 19 by decide), s.enc_getD (show 14 < 19 by decide), s.enc_getD (show 15 < 19 by decide), s.enc_getD (show 16 < 19 by decide), s.enc_getD (show 17 < 19 by decide), s.enc_getD (show 18 < 19 by decide)]
  have e8 : s.body.getD 8 0 = s.a.l.toNat % 256 := rfl
  have e9 : s.body.getD 9 0 = s.a.d.toNat % 256 := rfl
  have e10 : s.body.getD 10 0 = s.a.c.toNat % 256 := rfl
  have e11 : s.body.getD 11 0 = s.b.l.toNat % 256 := rfl
  have e12 : s.body.getD 12 0 = s.b.d.toNat % 256 := rfl
  have e13 : s.body.getD 13 0 = s.b.c.toNat % 256 := rfl
  have e14 : s.body.getD 14 0 = if s.run then 1 else 0 := rfl
  have e15 : s.body.getD 15 0 = s.win.toNat % 256 := rfl
  have e16 : s.body.getD 16 0 = s.ep.toNat / 256 % 256 := rfl
  have e17 : s.body.getD 17 0 = s.ep.toNat % 256 := rfl
  have e18 : s.body.getD 18 0 = s.out.toNat % 256 := rfl
  rw [e8, e9, e10, e11, e12, e13, e14, e15, e16, e17, e18, Geo.bytes_back (.inl k1), Geo.bytes_back k2]
  obtain ⟨gen, a, b, run, win, ep, out⟩ := s
  simp only [Sup.mk.injEq, true_and]
  dsimp only at *
  refine ⟨by omega, ?_, by omega, by omega, by omega⟩
  cases run <;> rfl
theorem Sup.is_enc {s : Sup} (h : s.ok = true) : Sup.is s.enc = true := by
  rw [Sup.is_iff, Sup.parse_enc h]; exact ⟨s.enc_len, h, rfl⟩
theorem Sup.enc_inj {s t : Sup} (hs : s.ok = true) (ht : t.ok = true) (h : s.enc = t.enc) : s = t := by
  rw [← Sup.parse_enc hs, ← Sup.parse_enc ht, h]
theorem Sup.enc_sealed (s : Sup) : sealed s.enc [] = s.enc := sealed_idem [] s.full_len
theorem Sup.is_sealed {l : List Nat} (h : Sup.is l = true) : sealed l [] = l := by
  obtain ⟨_, _, h3⟩ := (Sup.is_iff l).1 h
  rw [← h3]; exact Sup.enc_sealed _
/-- one byte of a sealed sector turned: it is sealed no more -/
theorem sealed_turn {s : List Nat} {i c : Nat} (hl : s.length = 32) (hs : ∀ x ∈ s, x < 256) (hss : sealed s [] = s) (hi : i < s.length) (hx : c < 256) (hne : c ≠ s[i]) : sealed (s.set i c) [] ≠ s.set i c := by
  intro h
  rcases Nat.lt_or_ge i 28 with hi28 | hi28
  · have e1 : (s.set i c).take 28 = (s.take 28).set i c := by rw [List.take_set]
    have e2 : (s.set i c).drop 28 = s.drop 28 := by rw [List.drop_set_of_lt hi28]
    have h2 := congrArg (List.drop 28) h
    rw [sealed_drop _ (by rw [List.length_set]; exact hl), e1, e2] at h2
    have h3 := congrArg (List.drop 28) hss
    rw [sealed_drop _ hl] at h3
    have ht : ∀ x ∈ s.take 28, x < 256 := fun x hx => hs x (List.mem_of_mem_take hx)
    have ht' : ∀ x ∈ (s.take 28).set i c, x < 256 := fun x hx2 => by
      rcases List.mem_or_eq_of_mem_set hx2 with h | h
      · exact ht x h
      · rw [h]; exact hx
    have hl1 : crc [s.take 28] < 4294967296 := crc_lt (by intro l hl; simp at hl; rcases hl with rfl; exact ht)
    have hl2 : crc [(s.take 28).set i c] < 4294967296 := crc_lt (by intro l hl; simp at hl; rcases hl with rfl; exact ht')
    have h4 := congrArg num (h2.trans h3.symm)
    rw [num_four hl1, num_four hl2] at h4
    have h5 := crc_inj h4
    simp only [List.flatten_cons, List.flatten_nil, List.append_nil] at h5
    have hit : i < (s.take 28).length := by rw [List.length_take]; omega
    have h7 := crcF_set (by decide) ht hit hx h5
    rw [List.getElem_take] at h7
    exact hne h7
  · have e1 : (s.set i c).take 28 = s.take 28 := by rw [List.take_set_of_le hi28]
    have h2 : sealed (s.set i c) [] = sealed s [] := by unfold sealed; rw [e1]
    rw [h2, hss] at h
    have h3 := congrArg (fun l => l[i]?) h
    rw [List.getElem?_set_self hi, List.getElem?_eq_getElem hi] at h3
    exact hne (Option.some.inj h3).symm
theorem xor_ne {a c : Nat} (h0 : c ≠ 0) : a ^^^ c ≠ a := by
  intro h
  have h7 : a ^^^ (a ^^^ c) = a ^^^ a := by rw [h]
  rw [← Nat.xor_assoc, Nat.xor_self, Nat.zero_xor] at h7
  exact h0 h7
/-- one byte of a Super's sector turned: it is none -/
theorem Sup.turned {s : Sup} {i c : Nat} (hi : i < s.enc.length) (hc : c < 256) (h0 : c ≠ 0) : Sup.is (s.enc.set i (s.enc[i] ^^^ c)) = false := by
  rw [Bool.eq_false_iff]
  intro h
  exact sealed_turn s.enc_len s.enc_byte s.enc_sealed hi (Nat.xor_lt_two_pow (n := 8) (s.enc_byte _ (List.getElem_mem hi)) hc) (xor_ne h0) (Sup.is_sealed h)
end Go.Proofs.Ytenjpldinnbcbaa
/- The walks of super.within, super.Check. -/

namespace Go.Proofs.Ytenjpldinnbcbaa
open Go.RowKit
set_option linter.unusedVariables false
set_option linter.unusedSimpArgs false
set_option maxRecDepth 100000
set_option maxHeartbeats 4000000

theorem within3_any (n lo hi : Int) (w : World) : Calls Try.prog 116 #[.int .i64 n, .int .i64 lo, .int .i64 hi] w fun e w' => e = .returned (.bool (inB n lo hi)) ∧ w = w' := by
  by_cases h1 : lo ≤ n
  · by_cases h2 : n ≤ hi
    · have e : inB n lo hi = true := (inB_iff _ _ _).2 ⟨h1, h2⟩
      have E := Lib.hid e
      clear e
      go_enter Try.func116, Try.ntmps116
      go_wp2
      go_ret
      exact ⟨ret_bool (by rw [E.out]), rfl⟩
    · have e : inB n lo hi = false := (inB_not _ _ _).2 (by omega)
      have E := Lib.hid e
      clear e
      go_enter Try.func116, Try.ntmps116
      go_wp2
      go_ret
      exact ⟨ret_bool (by rw [E.out]), rfl⟩
  · have e : inB n lo hi = false := (inB_not _ _ _).2 (by omega)
    have E := Lib.hid e
    clear e
    go_enter Try.func116, Try.ntmps116
    go_wp2
    go_ret
    exact ⟨ret_bool (by rw [E.out]), rfl⟩
/-- a Super's value -/
def sv (s : Sup) : Value := .agg #[.int .i64 s.gen, .int .i64 s.a.l, .int .i64 s.a.d, .int .i64 s.a.c, .int .i64 s.b.l, .int .i64 s.b.d, .int .i64 s.b.c, .bool s.run, .int .i64 s.win, .int .i64 s.ep, .int .i64 s.out]
/-- a box of eleven cells, seen later -/
theorem box11 {w w1 : World} {e : TypeId} {fr : Nat × Nat} {v0 v1 v2 v3 v4 v5 v6 v7 v8 v9 v10 : Value} (h : Below (w.alloc (.cells #[v0, v1, v2, v3, v4, v5, v6, v7, v8, v9, v10] e fr)).heap.size (w.alloc (.cells #[v0, v1, v2, v3, v4, v5, v6, v7, v8, v9, v10] e fr)) w1) :
    w1.cell? ⟨w.heap.size, 0, none⟩ = some v0 ∧ w1.cell? ⟨w.heap.size, 1, none⟩ = some v1 ∧ w1.cell? ⟨w.heap.size, 2, none⟩ = some v2 ∧ w1.cell? ⟨w.heap.size, 3, none⟩ = some v3 ∧ w1.cell? ⟨w.heap.size, 4, none⟩ = some v4 ∧ w1.cell? ⟨w.heap.size, 5, none⟩ = some v5 ∧ w1.cell? ⟨w.heap.size, 6, none⟩ = some v6 ∧ w1.cell? ⟨w.heap.size, 7, none⟩ = some v7 ∧ w1.cell? ⟨w.heap.size, 8, none⟩ = some v8 ∧ w1.cell? ⟨w.heap.size, 9, none⟩ = some v9 ∧ w1.cell? ⟨w.heap.size, 10, none⟩ = some v10 :=
  ⟨box_up h 0 rfl, box_up h 1 rfl, box_up h 2 rfl, box_up h 3 rfl, box_up h 4 rfl, box_up h 5 rfl, box_up h 6 rfl, box_up h 7 rfl, box_up h 8 rfl, box_up h 9 rfl, box_up h 10 rfl⟩
theorem scheck_0 (s : Sup) (w : World) (hs : s.In) (er : Int) (her : Hid (er = 1)) (hG : Hid (inB s.gen 1 2147483647 = false)) :
    Calls Try.prog 103 #[sv s] w fun e w' => e = .returned (.int .i64 er) ∧ Below w.heap.size w w' := by
  unfold sv
  go_enter Try.func103, Try.ntmps103
  go_wp2_with (first
    | (go_at_call_of 116 (Value.int .i64 s.gen); refine Calls.mono (within3_any _ _ _ _) ?_; rw [hG.out]; rintro e wa ⟨rfl, rfl⟩))
  go_ret
  exact ⟨ret_i64 her.out.symm, belA1 (belR _)⟩
theorem scheck_1 (s : Sup) (w : World) (hs : s.In) (er : Int) (her : Hid (er = 1)) (hG : Hid (inB s.gen 1 2147483647 = true)) (hA : Hid (s.a.ok = false)) :
    Calls Try.prog 103 #[sv s] w fun e w' => e = .returned (.int .i64 er) ∧ Below w.heap.size w w' := by
  unfold sv
  have hAe : Hid ((Geo.mk s.a.l s.a.d s.a.c).err = 1) := Geo.err_no hA.out
  go_enter Try.func103, Try.ntmps103
  go_wp2_with (first
    | (go_at_call_of 116 (Value.int .i64 s.gen); refine Calls.mono (within3_any _ _ _ _) ?_; rw [hG.out]; rintro e wa ⟨rfl, rfl⟩)
    | (go_at_call 117; refine Calls.mono (gcheck_any s.a.l s.a.d s.a.c _ hs.a.l hs.a.d hs.a.c) ?_; rw [hAe.out]; rintro e w2 ⟨rfl, b2⟩; obtain ⟨c0, c1, c2, c3, c4, c5, c6, c7, c8, c9, c10⟩ := box11 b2))
  go_ret
  exact ⟨ret_i64 her.out.symm, belT (belA1 (belR _)) b2⟩
theorem scheck_2 (s : Sup) (w : World) (hs : s.In) (er : Int) (her : Hid (er = 1)) (hG : Hid (inB s.gen 1 2147483647 = true)) (hA : Hid (s.a.ok = true)) (hR : s.run = true) (hC : Hid (s.a.can s.b = false)) :
    Calls Try.prog 103 #[sv s] w fun e w' => e = .returned (.int .i64 er) ∧ Below w.heap.size w w' := by
  unfold sv
  have hAe : Hid ((Geo.mk s.a.l s.a.d s.a.c).err = 0) := Geo.err_yes hA.out
  have hCe : Hid ((Geo.mk s.a.l s.a.d s.a.c).can (Geo.mk s.b.l s.b.d s.b.c) = false) := hC.out
  go_enter Try.func103, Try.ntmps103
  go_wp2_with (first
    | (go_at_call_of 116 (Value.int .i64 s.gen); refine Calls.mono (within3_any _ _ _ _) ?_; rw [hG.out]; rintro e wa ⟨rfl, rfl⟩)
    | (go_at_call 117; refine Calls.mono (gcheck_any s.a.l s.a.d s.a.c _ hs.a.l hs.a.d hs.a.c) ?_; rw [hAe.out]; rintro e w2 ⟨rfl, b2⟩; obtain ⟨c0, c1, c2, c3, c4, c5, c6, c7, c8, c9, c10⟩ := box11 b2)
    | (go_at_call 118; refine Calls.mono (can_any s.a.l s.a.d s.a.c s.b.l s.b.d s.b.c _ hs.a.l hs.a.d hs.a.c hs.b.l hs.b.d hs.b.c) ?_; rw [hCe.out]; rintro e w3 ⟨rfl, b3⟩; have b2 := belT b2 b3; clear c0 c1 c2 c3 c4 c5 c6 c7 c8 c9 c10; obtain ⟨c0, c1, c2, c3, c4, c5, c6, c7, c8, c9, c10⟩ := box11 b2))
  go_ret
  exact ⟨ret_i64 her.out.symm, belT (belA1 (belR _)) b2⟩
theorem scheck_3 (s : Sup) (w : World) (hs : s.In) (er : Int) (her : Hid (er = 1)) (hG : Hid (inB s.gen 1 2147483647 = true)) (hA : Hid (s.a.ok = true)) (hR : s.run = true) (hC : Hid (s.a.can s.b = true)) (hW : Hid (inB s.win 0 16 = false)) :
    Calls Try.prog 103 #[sv s] w fun e w' => e = .returned (.int .i64 er) ∧ Below w.heap.size w w' := by
  unfold sv
  have hAe : Hid ((Geo.mk s.a.l s.a.d s.a.c).err = 0) := Geo.err_yes hA.out
  have hCe : Hid ((Geo.mk s.a.l s.a.d s.a.c).can (Geo.mk s.b.l s.b.d s.b.c) = true) := hC.out
  go_enter Try.func103, Try.ntmps103
  go_wp2_with (first
    | (go_at_call_of 116 (Value.int .i64 s.gen); refine Calls.mono (within3_any _ _ _ _) ?_; rw [hG.out]; rintro e wa ⟨rfl, rfl⟩)
    | (go_at_call 117; refine Calls.mono (gcheck_any s.a.l s.a.d s.a.c _ hs.a.l hs.a.d hs.a.c) ?_; rw [hAe.out]; rintro e w2 ⟨rfl, b2⟩; obtain ⟨c0, c1, c2, c3, c4, c5, c6, c7, c8, c9, c10⟩ := box11 b2)
    | (go_at_call 118; refine Calls.mono (can_any s.a.l s.a.d s.a.c s.b.l s.b.d s.b.c _ hs.a.l hs.a.d hs.a.c hs.b.l hs.b.d hs.b.c) ?_; rw [hCe.out]; rintro e w3 ⟨rfl, b3⟩; have b2 := belT b2 b3; clear c0 c1 c2 c3 c4 c5 c6 c7 c8 c9 c10; obtain ⟨c0, c1, c2, c3, c4, c5, c6, c7, c8, c9, c10⟩ := box11 b2)
    | (go_at_call_of 116 (Value.int .i64 s.win); refine Calls.mono (within3_any _ _ _ _) ?_; rw [hW.out]; rintro e wa ⟨rfl, rfl⟩))
  go_ret
  exact ⟨ret_i64 her.out.symm, belT (belA1 (belR _)) b2⟩
theorem scheck_4 (s : Sup) (w : World) (hs : s.In) (er : Int) (her : Hid (er = 1)) (hG : Hid (inB s.gen 1 2147483647 = true)) (hA : Hid (s.a.ok = true)) (hR : s.run = true) (hC : Hid (s.a.can s.b = true)) (hW : Hid (inB s.win 0 16 = true)) (hE : Hid (inB s.ep 0 65535 = false)) :
    Calls Try.prog 103 #[sv s] w fun e w' => e = .returned (.int .i64 er) ∧ Below w.heap.size w w' := by
  unfold sv
  have hAe : Hid ((Geo.mk s.a.l s.a.d s.a.c).err = 0) := Geo.err_yes hA.out
  have hCe : Hid ((Geo.mk s.a.l s.a.d s.a.c).can (Geo.mk s.b.l s.b.d s.b.c) = true) := hC.out
  go_enter Try.func103, Try.ntmps103
  go_wp2_with (first
    | (go_at_call_of 116 (Value.int .i64 s.gen); refine Calls.mono (within3_any _ _ _ _) ?_; rw [hG.out]; rintro e wa ⟨rfl, rfl⟩)
    | (go_at_call 117; refine Calls.mono (gcheck_any s.a.l s.a.d s.a.c _ hs.a.l hs.a.d hs.a.c) ?_; rw [hAe.out]; rintro e w2 ⟨rfl, b2⟩; obtain ⟨c0, c1, c2, c3, c4, c5, c6, c7, c8, c9, c10⟩ := box11 b2)
    | (go_at_call 118; refine Calls.mono (can_any s.a.l s.a.d s.a.c s.b.l s.b.d s.b.c _ hs.a.l hs.a.d hs.a.c hs.b.l hs.b.d hs.b.c) ?_; rw [hCe.out]; rintro e w3 ⟨rfl, b3⟩; have b2 := belT b2 b3; clear c0 c1 c2 c3 c4 c5 c6 c7 c8 c9 c10; obtain ⟨c0, c1, c2, c3, c4, c5, c6, c7, c8, c9, c10⟩ := box11 b2)
    | (go_at_call_of 116 (Value.int .i64 s.win); refine Calls.mono (within3_any _ _ _ _) ?_; rw [hW.out]; rintro e wa ⟨rfl, rfl⟩)
    | (go_at_call_of 116 (Value.int .i64 s.ep); refine Calls.mono (within3_any _ _ _ _) ?_; rw [hE.out]; rintro e wa ⟨rfl, rfl⟩))
  go_ret
  exact ⟨ret_i64 her.out.symm, belT (belA1 (belR _)) b2⟩
theorem scheck_5 (s : Sup) (w : World) (hs : s.In) (er : Int) (her : Hid (er = 1)) (hG : Hid (inB s.gen 1 2147483647 = true)) (hA : Hid (s.a.ok = true)) (hR : s.run = true) (hC : Hid (s.a.can s.b = true)) (hW : Hid (inB s.win 0 16 = true)) (hE : Hid (inB s.ep 0 65535 = true)) (hO : Hid (inB s.out 0 255 = false)) :
    Calls Try.prog 103 #[sv s] w fun e w' => e = .returned (.int .i64 er) ∧ Below w.heap.size w w' := by
  unfold sv
  have hAe : Hid ((Geo.mk s.a.l s.a.d s.a.c).err = 0) := Geo.err_yes hA.out
  have hCe : Hid ((Geo.mk s.a.l s.a.d s.a.c).can (Geo.mk s.b.l s.b.d s.b.c) = true) := hC.out
  go_enter Try.func103, Try.ntmps103
  go_wp2_with (first
    | (go_at_call_of 116 (Value.int .i64 s.gen); refine Calls.mono (within3_any _ _ _ _) ?_; rw [hG.out]; rintro e wa ⟨rfl, rfl⟩)
    | (go_at_call 117; refine Calls.mono (gcheck_any s.a.l s.a.d s.a.c _ hs.a.l hs.a.d hs.a.c) ?_; rw [hAe.out]; rintro e w2 ⟨rfl, b2⟩; obtain ⟨c0, c1, c2, c3, c4, c5, c6, c7, c8, c9, c10⟩ := box11 b2)
    | (go_at_call 118; refine Calls.mono (can_any s.a.l s.a.d s.a.c s.b.l s.b.d s.b.c _ hs.a.l hs.a.d hs.a.c hs.b.l hs.b.d hs.b.c) ?_; rw [hCe.out]; rintro e w3 ⟨rfl, b3⟩; have b2 := belT b2 b3; clear c0 c1 c2 c3 c4 c5 c6 c7 c8 c9 c10; obtain ⟨c0, c1, c2, c3, c4, c5, c6, c7, c8, c9, c10⟩ := box11 b2)
    | (go_at_call_of 116 (Value.int .i64 s.win); refine Calls.mono (within3_any _ _ _ _) ?_; rw [hW.out]; rintro e wa ⟨rfl, rfl⟩)
    | (go_at_call_of 116 (Value.int .i64 s.ep); refine Calls.mono (within3_any _ _ _ _) ?_; rw [hE.out]; rintro e wa ⟨rfl, rfl⟩)
    | (go_at_call_of 116 (Value.int .i64 s.out); refine Calls.mono (within3_any _ _ _ _) ?_; rw [hO.out]; rintro e wa ⟨rfl, rfl⟩))
  go_ret
  exact ⟨ret_i64 her.out.symm, belT (belA1 (belR _)) b2⟩
theorem scheck_6 (s : Sup) (w : World) (hs : s.In) (er : Int) (her : Hid (er = 0)) (hG : Hid (inB s.gen 1 2147483647 = true)) (hA : Hid (s.a.ok = true)) (hR : s.run = true) (hC : Hid (s.a.can s.b = true)) (hW : Hid (inB s.win 0 16 = true)) (hE : Hid (inB s.ep 0 65535 = true)) (hO : Hid (inB s.out 0 255 = true)) :
    Calls Try.prog 103 #[sv s] w fun e w' => e = .returned (.int .i64 er) ∧ Below w.heap.size w w' := by
  unfold sv
  have hAe : Hid ((Geo.mk s.a.l s.a.d s.a.c).err = 0) := Geo.err_yes hA.out
  have hCe : Hid ((Geo.mk s.a.l s.a.d s.a.c).can (Geo.mk s.b.l s.b.d s.b.c) = true) := hC.out
  go_enter Try.func103, Try.ntmps103
  go_wp2_with (first
    | (go_at_call_of 116 (Value.int .i64 s.gen); refine Calls.mono (within3_any _ _ _ _) ?_; rw [hG.out]; rintro e wa ⟨rfl, rfl⟩)
    | (go_at_call 117; refine Calls.mono (gcheck_any s.a.l s.a.d s.a.c _ hs.a.l hs.a.d hs.a.c) ?_; rw [hAe.out]; rintro e w2 ⟨rfl, b2⟩; obtain ⟨c0, c1, c2, c3, c4, c5, c6, c7, c8, c9, c10⟩ := box11 b2)
    | (go_at_call 118; refine Calls.mono (can_any s.a.l s.a.d s.a.c s.b.l s.b.d s.b.c _ hs.a.l hs.a.d hs.a.c hs.b.l hs.b.d hs.b.c) ?_; rw [hCe.out]; rintro e w3 ⟨rfl, b3⟩; have b2 := belT b2 b3; clear c0 c1 c2 c3 c4 c5 c6 c7 c8 c9 c10; obtain ⟨c0, c1, c2, c3, c4, c5, c6, c7, c8, c9, c10⟩ := box11 b2)
    | (go_at_call_of 116 (Value.int .i64 s.win); refine Calls.mono (within3_any _ _ _ _) ?_; rw [hW.out]; rintro e wa ⟨rfl, rfl⟩)
    | (go_at_call_of 116 (Value.int .i64 s.ep); refine Calls.mono (within3_any _ _ _ _) ?_; rw [hE.out]; rintro e wa ⟨rfl, rfl⟩)
    | (go_at_call_of 116 (Value.int .i64 s.out); refine Calls.mono (within3_any _ _ _ _) ?_; rw [hO.out]; rintro e wa ⟨rfl, rfl⟩))
  go_ret
  exact ⟨ret_i64 her.out.symm, belT (belA1 (belR _)) b2⟩
theorem scheck_7 (s : Sup) (w : World) (hs : s.In) (er : Int) (her : Hid (er = 1)) (hG : Hid (inB s.gen 1 2147483647 = true)) (hA : Hid (s.a.ok = true)) (hR : s.run = false) (hQ : Hid (s.b.same Geo.zero = false)) :
    Calls Try.prog 103 #[sv s] w fun e w' => e = .returned (.int .i64 er) ∧ Below w.heap.size w w' := by
  unfold sv
  have kq := geq_run s.b.l s.b.d s.b.c 0 0 0
  rw [show (Geo.mk s.b.l s.b.d s.b.c).same (Geo.mk 0 0 0) = false from hQ.out] at kq
  have hAe : Hid ((Geo.mk s.a.l s.a.d s.a.c).err = 0) := Geo.err_yes hA.out
  go_enter Try.func103, Try.ntmps103
  go_wp2_with (first
    | (go_at_call_of 116 (Value.int .i64 s.gen); refine Calls.mono (within3_any _ _ _ _) ?_; rw [hG.out]; rintro e wa ⟨rfl, rfl⟩)
    | (go_at_call 117; refine Calls.mono (gcheck_any s.a.l s.a.d s.a.c _ hs.a.l hs.a.d hs.a.c) ?_; rw [hAe.out]; rintro e w2 ⟨rfl, b2⟩; obtain ⟨c0, c1, c2, c3, c4, c5, c6, c7, c8, c9, c10⟩ := box11 b2))
  go_ret
  exact ⟨ret_i64 her.out.symm, belT (belA1 (belR _)) b2⟩
theorem scheck_8 (s : Sup) (w : World) (hs : s.In) (er : Int) (her : Hid (er = 1)) (hG : Hid (inB s.gen 1 2147483647 = true)) (hA : Hid (s.a.ok = true)) (hR : s.run = false) (hQ : Hid (s.b.same Geo.zero = true)) (hZ : Hid ((s.win == 0) = false)) :
    Calls Try.prog 103 #[sv s] w fun e w' => e = .returned (.int .i64 er) ∧ Below w.heap.size w w' := by
  unfold sv
  have kq := geq_run s.b.l s.b.d s.b.c 0 0 0
  rw [show (Geo.mk s.b.l s.b.d s.b.c).same (Geo.mk 0 0 0) = true from hQ.out] at kq
  have kz : (s.win != 0) = true := by rw [bne, hZ.out]; rfl
  have hAe : Hid ((Geo.mk s.a.l s.a.d s.a.c).err = 0) := Geo.err_yes hA.out
  go_enter Try.func103, Try.ntmps103
  go_wp2_with (first
    | (go_at_call_of 116 (Value.int .i64 s.gen); refine Calls.mono (within3_any _ _ _ _) ?_; rw [hG.out]; rintro e wa ⟨rfl, rfl⟩)
    | (go_at_call 117; refine Calls.mono (gcheck_any s.a.l s.a.d s.a.c _ hs.a.l hs.a.d hs.a.c) ?_; rw [hAe.out]; rintro e w2 ⟨rfl, b2⟩; obtain ⟨c0, c1, c2, c3, c4, c5, c6, c7, c8, c9, c10⟩ := box11 b2))
  go_ret
  exact ⟨ret_i64 her.out.symm, belT (belA1 (belR _)) b2⟩
theorem scheck_9 (s : Sup) (w : World) (hs : s.In) (er : Int) (her : Hid (er = 1)) (hG : Hid (inB s.gen 1 2147483647 = true)) (hA : Hid (s.a.ok = true)) (hR : s.run = false) (hQ : Hid (s.b.same Geo.zero = true)) (hZ : Hid ((s.win == 0) = true)) (hE : Hid (inB s.ep 0 65535 = false)) :
    Calls Try.prog 103 #[sv s] w fun e w' => e = .returned (.int .i64 er) ∧ Below w.heap.size w w' := by
  unfold sv
  have kq := geq_run s.b.l s.b.d s.b.c 0 0 0
  rw [show (Geo.mk s.b.l s.b.d s.b.c).same (Geo.mk 0 0 0) = true from hQ.out] at kq
  have kz : (s.win != 0) = false := by rw [bne, hZ.out]; rfl
  have hAe : Hid ((Geo.mk s.a.l s.a.d s.a.c).err = 0) := Geo.err_yes hA.out
  go_enter Try.func103, Try.ntmps103
  go_wp2_with (first
    | (go_at_call_of 116 (Value.int .i64 s.gen); refine Calls.mono (within3_any _ _ _ _) ?_; rw [hG.out]; rintro e wa ⟨rfl, rfl⟩)
    | (go_at_call 117; refine Calls.mono (gcheck_any s.a.l s.a.d s.a.c _ hs.a.l hs.a.d hs.a.c) ?_; rw [hAe.out]; rintro e w2 ⟨rfl, b2⟩; obtain ⟨c0, c1, c2, c3, c4, c5, c6, c7, c8, c9, c10⟩ := box11 b2)
    | (go_at_call_of 116 (Value.int .i64 s.ep); refine Calls.mono (within3_any _ _ _ _) ?_; rw [hE.out]; rintro e wa ⟨rfl, rfl⟩))
  go_ret
  exact ⟨ret_i64 her.out.symm, belT (belA1 (belR _)) b2⟩
theorem scheck_10 (s : Sup) (w : World) (hs : s.In) (er : Int) (her : Hid (er = 1)) (hG : Hid (inB s.gen 1 2147483647 = true)) (hA : Hid (s.a.ok = true)) (hR : s.run = false) (hQ : Hid (s.b.same Geo.zero = true)) (hZ : Hid ((s.win == 0) = true)) (hE : Hid (inB s.ep 0 65535 = true)) (hO : Hid (inB s.out 0 255 = false)) :
    Calls Try.prog 103 #[sv s] w fun e w' => e = .returned (.int .i64 er) ∧ Below w.heap.size w w' := by
  unfold sv
  have kq := geq_run s.b.l s.b.d s.b.c 0 0 0
  rw [show (Geo.mk s.b.l s.b.d s.b.c).same (Geo.mk 0 0 0) = true from hQ.out] at kq
  have kz : (s.win != 0) = false := by rw [bne, hZ.out]; rfl
  have hAe : Hid ((Geo.mk s.a.l s.a.d s.a.c).err = 0) := Geo.err_yes hA.out
  go_enter Try.func103, Try.ntmps103
  go_wp2_with (first
    | (go_at_call_of 116 (Value.int .i64 s.gen); refine Calls.mono (within3_any _ _ _ _) ?_; rw [hG.out]; rintro e wa ⟨rfl, rfl⟩)
    | (go_at_call 117; refine Calls.mono (gcheck_any s.a.l s.a.d s.a.c _ hs.a.l hs.a.d hs.a.c) ?_; rw [hAe.out]; rintro e w2 ⟨rfl, b2⟩; obtain ⟨c0, c1, c2, c3, c4, c5, c6, c7, c8, c9, c10⟩ := box11 b2)
    | (go_at_call_of 116 (Value.int .i64 s.ep); refine Calls.mono (within3_any _ _ _ _) ?_; rw [hE.out]; rintro e wa ⟨rfl, rfl⟩)
    | (go_at_call_of 116 (Value.int .i64 s.out); refine Calls.mono (within3_any _ _ _ _) ?_; rw [hO.out]; rintro e wa ⟨rfl, rfl⟩))
  go_ret
  exact ⟨ret_i64 her.out.symm, belT (belA1 (belR _)) b2⟩
theorem scheck_11 (s : Sup) (w : World) (hs : s.In) (er : Int) (her : Hid (er = 0)) (hG : Hid (inB s.gen 1 2147483647 = true)) (hA : Hid (s.a.ok = true)) (hR : s.run = false) (hQ : Hid (s.b.same Geo.zero = true)) (hZ : Hid ((s.win == 0) = true)) (hE : Hid (inB s.ep 0 65535 = true)) (hO : Hid (inB s.out 0 255 = true)) :
    Calls Try.prog 103 #[sv s] w fun e w' => e = .returned (.int .i64 er) ∧ Below w.heap.size w w' := by
  unfold sv
  have kq := geq_run s.b.l s.b.d s.b.c 0 0 0
  rw [show (Geo.mk s.b.l s.b.d s.b.c).same (Geo.mk 0 0 0) = true from hQ.out] at kq
  have kz : (s.win != 0) = false := by rw [bne, hZ.out]; rfl
  have hAe : Hid ((Geo.mk s.a.l s.a.d s.a.c).err = 0) := Geo.err_yes hA.out
  go_enter Try.func103, Try.ntmps103
  go_wp2_with (first
    | (go_at_call_of 116 (Value.int .i64 s.gen); refine Calls.mono (within3_any _ _ _ _) ?_; rw [hG.out]; rintro e wa ⟨rfl, rfl⟩)
    | (go_at_call 117; refine Calls.mono (gcheck_any s.a.l s.a.d s.a.c _ hs.a.l hs.a.d hs.a.c) ?_; rw [hAe.out]; rintro e w2 ⟨rfl, b2⟩; obtain ⟨c0, c1, c2, c3, c4, c5, c6, c7, c8, c9, c10⟩ := box11 b2)
    | (go_at_call_of 116 (Value.int .i64 s.ep); refine Calls.mono (within3_any _ _ _ _) ?_; rw [hE.out]; rintro e wa ⟨rfl, rfl⟩)
    | (go_at_call_of 116 (Value.int .i64 s.out); refine Calls.mono (within3_any _ _ _ _) ?_; rw [hO.out]; rintro e wa ⟨rfl, rfl⟩))
  go_ret
  exact ⟨ret_i64 her.out.symm, belT (belA1 (belR _)) b2⟩
theorem scheck_any (s : Sup) (w : World) (hs : s.In) :
    Calls Try.prog 103 #[sv s] w fun e w' => e = .returned (.int .i64 s.err) ∧ Below w.heap.size w w' := by
  cases hG : inB s.gen 1 2147483647 with
  | false =>
    exact scheck_0 s w hs _ (Lib.hid (Sup.err_no (by unfold Sup.ok Sup.okRun; simp [hG]))) (Lib.hid hG)
  | true =>
    cases hA : s.a.ok with
    | false =>
      exact scheck_1 s w hs _ (Lib.hid (Sup.err_no (by unfold Sup.ok Sup.okRun; simp [hG, hA]))) (Lib.hid hG) (Lib.hid hA)
    | true =>
      cases hR : s.run with
      | false =>
        cases hQ : s.b.same Geo.zero with
        | false =>
          exact scheck_7 s w hs _ (Lib.hid (Sup.err_no (by unfold Sup.ok Sup.okRun; simp [hG, hA, hR, hQ]))) (Lib.hid hG) (Lib.hid hA) hR (Lib.hid hQ)
        | true =>
          cases hZ : (s.win == 0) with
          | false =>
            exact scheck_8 s w hs _ (Lib.hid (Sup.err_no (by unfold Sup.ok Sup.okRun; simp [hG, hA, hR, hQ, hZ]))) (Lib.hid hG) (Lib.hid hA) hR (Lib.hid hQ) (Lib.hid hZ)
          | true =>
            cases hE : inB s.ep 0 65535 with
            | false =>
              exact scheck_9 s w hs _ (Lib.hid (Sup.err_no (by unfold Sup.ok Sup.okRun; simp [hG, hA, hR, hQ, hZ, hE]))) (Lib.hid hG) (Lib.hid hA) hR (Lib.hid hQ) (Lib.hid hZ) (Lib.hid hE)
            | true =>
              cases hO : inB s.out 0 255 with
              | false =>
                exact scheck_10 s w hs _ (Lib.hid (Sup.err_no (by unfold Sup.ok Sup.okRun; simp [hG, hA, hR, hQ, hZ, hE, hO]))) (Lib.hid hG) (Lib.hid hA) hR (Lib.hid hQ) (Lib.hid hZ) (Lib.hid hE) (Lib.hid hO)
              | true =>
                exact scheck_11 s w hs _ (Lib.hid (Sup.err_yes (by unfold Sup.ok Sup.okRun; simp [hG, hA, hR, hQ, hZ, hE, hO]))) (Lib.hid hG) (Lib.hid hA) hR (Lib.hid hQ) (Lib.hid hZ) (Lib.hid hE) (Lib.hid hO)
      | true =>
        cases hC : s.a.can s.b with
        | false =>
          exact scheck_2 s w hs _ (Lib.hid (Sup.err_no (by unfold Sup.ok Sup.okRun; simp [hG, hA, hR, hC]))) (Lib.hid hG) (Lib.hid hA) hR (Lib.hid hC)
        | true =>
          cases hW : inB s.win 0 16 with
          | false =>
            exact scheck_3 s w hs _ (Lib.hid (Sup.err_no (by unfold Sup.ok Sup.okRun; simp [hG, hA, hR, hC, hW]))) (Lib.hid hG) (Lib.hid hA) hR (Lib.hid hC) (Lib.hid hW)
          | true =>
            cases hE : inB s.ep 0 65535 with
            | false =>
              exact scheck_4 s w hs _ (Lib.hid (Sup.err_no (by unfold Sup.ok Sup.okRun; simp [hG, hA, hR, hC, hW, hE]))) (Lib.hid hG) (Lib.hid hA) hR (Lib.hid hC) (Lib.hid hW) (Lib.hid hE)
            | true =>
              cases hO : inB s.out 0 255 with
              | false =>
                exact scheck_5 s w hs _ (Lib.hid (Sup.err_no (by unfold Sup.ok Sup.okRun; simp [hG, hA, hR, hC, hW, hE, hO]))) (Lib.hid hG) (Lib.hid hA) hR (Lib.hid hC) (Lib.hid hW) (Lib.hid hE) (Lib.hid hO)
              | true =>
                exact scheck_6 s w hs _ (Lib.hid (Sup.err_yes (by unfold Sup.ok Sup.okRun; simp [hG, hA, hR, hC, hW, hE, hO]))) (Lib.hid hG) (Lib.hid hA) hR (Lib.hid hC) (Lib.hid hW) (Lib.hid hE) (Lib.hid hO)
end Go.Proofs.Ytenjpldinnbcbaa
/- Bytes written out are owned; append of bytes as one operation of a region. Over any program. -/

namespace Go.Proofs.Ytenjpldinnbcbaa
open Go.RowKit
set_option linter.unusedVariables false
set_option linter.unusedSimpArgs false

theorem Own.lit (w : World) (cs : Array Value) (l : List Nat) {n g base : Nat} (hg : g = w.heap.size) (hn : n = cs.size) (hl : cs.toList = l.map u8v) (h8 : ∀ x ∈ l, x < 256) (hm : l.length ≤ 1048576) (hb : base ≤ w.heap.size) :
    Own (w.alloc (.cells cs 5)) base (.slice (some ⟨g, 0, none⟩) n n) l := by
  subst hn
  subst hg
  have hs : cs.size = l.length := by have := congrArg List.length hl; simpa using this
  refine ⟨h8, ?_⟩
  have h := World.ownsRow_lit (base := base) (e := 5) (size := 1) w cs cs.size hb (by rw [hs]; simp [maxLen]; omega) (by simp)
  rw [hl] at h
  rw [← hs]
  exact h
theorem wp_append_bytes {P : Program} {w : World} {o : Oper} {a : Act} {K : Act → World → Prop} {Q : Exit → Act → World → Prop} (s x : Operand) (t : TypeId)
    (ho : o.op = .call { callee := .builtin .append, args := #[s, x], argTypes := #[t, t] })
    (i : TypeInfo) (ht : P.underlying t = some (.slice 5)) (hi : P.info? 5 = some i) (hz : i.zero = some (.int .u8 0)) (hsize : i.size = 1) (hby : i.bytes = 1)
    (base : Nat) (v : Value) (l : List Nat) (hs : a.eval s = v) (hown : Own w base v l) (b off n c : Nat) (m : List Nat) (hx : a.eval x = .slice (some ⟨b, off, none⟩) n c) (hsrc : Byt w (.slice (some ⟨b, off, none⟩) n c) m)
    (h63 : l.length + m.length ≤ 1048576) (hbase : base ≤ w.heap.size)
    (h : ∀ v' w', Own w' base v' (l ++ m) → w.grownBy w' v.ownBlock → K (a.put o.dst v') w') : o.wp P a w K Q := by
  obtain ⟨ao, cap, e, h1, h2, h0, h3, hA⟩ := hsrc
  cases e
  obtain ⟨v', w', hr, h4, h5, _⟩ := run_append_own (P := P) w base t o.type 5 i (.int .u8 0) 1 1 ht hi hz hsize hby rfl (by decide) v l.length (l.map u8v) hown.2 ⟨b, off, none⟩ m.length c (m.map u8v) (by simp) (by
    intro j u hj
    rcases hA with hA | ⟨b', off', e, _, hc⟩
    · have : m = [] := by simpa using hA
      subst this; simp at hj
    · cases e
      obtain ⟨hlt, hju⟩ := List.getElem?_eq_some_iff.1 hj
      rw [WideShapes.add_plain, hc j hlt]
      exact hj) (u8v_one _) (by simp only [maxLen]; omega) (by omega) hbase
  unfold Oper.wp execOp
  simp only [ho, resolve, invoke, builtin, Sem.run_bind, Sem.run_pure, Result.andThen_ok, List.map_toArray, List.map_cons, List.map_nil, hs, hx, hr]
  refine h v' w' ⟨?_, ?_⟩ h5
  · intro y hy
    rcases List.mem_append.1 hy with h5 | h5
    · exact hown.1 y h5
    · exact h3 y h5
  · rw [List.length_append, List.map_append]; exact h4
/-- append onto bytes whose row is full: always new memory -/
theorem wpList_append_full {P : Program} {w : World} {ops : Array Oper} {rest : List Oper} {o : Oper} {a : Act} {Q : Exit → Act → World → Prop} (hgd : o.guard = none) (s x : Operand) (t : TypeId)
    (ho : o.op = .call { callee := .builtin .append, args := #[s, x], argTypes := #[t, t] })
    (i : TypeInfo) (ht : P.underlying t = some (.slice 5)) (hi : P.info? 5 = some i) (hz : i.zero = some (.int .u8 0)) (hsize : i.size = 1) (hby : i.bytes = 1)
    (b off n : Nat) (l : List Nat) (hs : a.eval s = .slice (some ⟨b, off, none⟩) n n) (hown : Byt w (.slice (some ⟨b, off, none⟩) n n) l) (b' off' n' c' : Nat) (m : List Nat) (hx : a.eval x = .slice (some ⟨b', off', none⟩) n' c') (hsrc : Byt w (.slice (some ⟨b', off', none⟩) n' c') m) (h0 : 0 < m.length)
    (h63 : l.length + m.length ≤ 1048576)
    (h : ∀ v' w', Own w' w.heap.size v' (l ++ m) → w.grownBy w' none → wpList P ops Q rest (a.put o.dst v') w') : wpList P ops Q (o :: rest) a w := by
  have cells : ∀ {bb oo : Nat} {l : List Nat}, At w (some ⟨bb, oo, none⟩) (l.map u8v) → ∀ j u, (l.map u8v)[j]? = some u → w.cell? ((⟨bb, oo, none⟩ : Addr).add j) = some u := by
    intro bb oo l hA j u hj
    rcases hA with hA | ⟨b', off', e, _, hc⟩
    · rw [hA] at hj; simp at hj
    · cases e
      obtain ⟨hlt, hju⟩ := List.getElem?_eq_some_iff.1 hj
      rw [WideShapes.add_plain, hc j hlt]
      exact hj
  obtain ⟨ao, cap, e, h1, h2, hn, h3, hA⟩ := hown
  cases e
  obtain ⟨ao, cap, e, h1', h2', hn', h3', hA'⟩ := hsrc
  cases e
  refine wpList_append_grows w hgd s x t ho 5 i (.int .u8 0) 1 1 ht hi hz hsize hby rfl (by decide) (some ⟨b, off, none⟩) l.length l.length (l.map u8v) hs (fun e => by cases e) (by simp) (fun b e => by cases e; exact cells hA) ⟨b', off', none⟩ m.length c' (m.map u8v) hx (by simp) (cells hA') (u8v_one _) (by omega) (by simp only [maxLen]; omega) (by omega) ?_
  intro v' w' ho hg
  refine h v' w' ⟨?_, ?_⟩ hg
  · intro y hy
    rcases List.mem_append.1 hy with h5 | h5
    · exact h3 y h5
    · exact h3' y h5
  · rw [List.length_append, List.map_append]; exact ho
/-- zeros behind what is owned -/
theorem wpList_append_zbytes {P : Program} {w : World} {ops : Array Oper} {rest : List Oper} {o : Oper} {a : Act} {Q : Exit → Act → World → Prop} (hgd : o.guard = none) (s x : Operand) (t tn : TypeId)
    (ho : o.op = .call { callee := .builtin .append, args := #[s, x], argTypes := #[t, tn] })
    (i : TypeInfo) (ht : P.underlying t = some (.slice 5)) (kq kn : IntKind) (htn : P.underlying tn = some (.int kn)) (hi : P.info? 5 = some i) (hz : i.zero = some (.int .u8 0)) (hsize : i.size = 1) (hby : i.bytes = 1)
    (base : Nat) (v : Value) (l : List Nat) (hs : a.eval s = v) (hown : Own w base v l) (k : Nat) (hx : a.eval x = .int kq (k : Int)) (h0 : 0 < k)
    (h63 : l.length + k ≤ 140737488355328) (hbase : base ≤ w.heap.size)
    (h : ∀ v' w', Own w' base v' (l ++ List.replicate k 0) → w.grownBy w' v.ownBlock → wpList P ops Q rest (a.put o.dst v') w') : wpList P ops Q (o :: rest) a w := by
  refine wpList_append_zeros hgd s x t tn ho base 5 i (.int .u8 0) 1 1 kq kn ht htn hi hz hsize hby rfl (by decide) zero_one v l.length (l.map u8v) hs hown.2 k hx h0 (by simp only [maxLen]; omega) (by omega) hbase ?_
  intro v' w' ho hg
  refine h v' w' ⟨?_, ?_⟩ hg
  · intro y hy
    rcases List.mem_append.1 hy with h5 | h5
    · exact hown.1 y h5
    · rw [List.eq_of_mem_replicate h5]; decide
  · rw [List.length_append, List.length_replicate, List.map_append, List.map_replicate]
    rw [show (Builtin.zeroCells (Value.int .u8 0).cells k).toList = List.replicate k (u8v 0) from zeroCells_rep _ _] at ho
    exact ho
end Go.Proofs.Ytenjpldinnbcbaa
/- The walks of super.of, super.Encode. -/

namespace Go.Proofs.Ytenjpldinnbcbaa
open Go.RowKit C
set_option linter.unusedVariables false
set_option linter.unusedSimpArgs false
set_option maxRecDepth 100000
set_option maxHeartbeats 4000000

theorem of_any (l d c : Nat) (w : World) :
    Calls Try.prog 104 #[.agg #[.int .i64 (l : Int), .int .i64 (d : Int), .int .i64 (c : Int)]] w fun e w' => ∃ g, e = .returned (.slice (some ⟨g, 0, none⟩) 3 3) ∧ Own w' w.heap.size (.slice (some ⟨g, 0, none⟩) 3 3) (Geo.mk l d c).bytes ∧ Below w.heap.size w w' := by
  have hb : Hid ((Geo.mk l d c).bytes = [l % 256, d % 256, c % 256]) := by show _ = _; unfold Geo.bytes; simp
  go_enter Try.func104, Try.ntmps104
  go_wp2
  go_ret
  refine ⟨_, rfl, ?_, belA2 (belR _)⟩
  rw [hb.out]
  exact Own.lit _ _ _ (by simp) rfl (by simp [u8v]) (by intro x hx; simp at hx; omega) (by simp) (by simp)
theorem sencode_no (s : Sup) (w : World) (hs : s.In) (hk : s.ok = false) :
    Calls Try.prog 75 #[sv s] w fun e w' => e = .returned (.tuple #[.slice none 0 0, .int .i64 1]) ∧ Below w.heap.size w w' := by
  have he : Hid (s.err = 1) := Sup.err_no hk
  clear hk
  unfold sv
  go_enter Try.func75, Try.ntmps75
  go_wp2_with (go_at_call 103; refine Calls.mono (scheck_any s _ hs) ?_; rw [he.out]; rintro e w2 ⟨rfl, b2⟩)
  go_ret2
  exact ⟨rfl, belT (belA1 (belR _)) b2⟩
theorem sencode_yes (gn al ad ac bl bd bc : Nat) (run : Bool) (win ep out : Nat) (w : World) (s : Sup) (he : s = ⟨gn, ⟨al, ad, ac⟩, ⟨bl, bd, bc⟩, run, win, ep, out⟩) (hk : s.ok = true) :
    Calls Try.prog 75 #[sv s] w fun e w' => ∃ v, e = .returned (.tuple #[v, .int .i64 0]) ∧ Own w' w.heap.size v s.enc ∧ Below w.heap.size w w' := by
  have hin := Sup.ok_in hk
  obtain ⟨r1, r2, r3, r4, r5⟩ := (Sup.ok_iff s).1 hk
  have r6 := (Sup.ok_more hk).2.2
  have hc := fun w => scheck_any s w hin
  rw [Sup.err_yes hk] at hc
  obtain ⟨rb, hrb⟩ : ∃ rb : Nat, run = true ∧ rb = 1 ∨ run = false ∧ rb = 0 := by cases run; exact ⟨0, .inr ⟨rfl, rfl⟩⟩; exact ⟨1, .inl ⟨rfl, rfl⟩⟩
  have HE : Hid (s.enc = sealed ((((([87, 83, 85, 80] ++ [gn / 16777216 % 256, gn / 65536 % 256, gn / 256 % 256, gn % 256]) ++ (Geo.mk al ad ac).bytes) ++ (Geo.mk bl bd bc).bytes) ++ [rb, win % 256, ep / 256 % 256, ep % 256, out % 256]) ++ List.replicate 13 0) []) := by
    show _ = _; rw [he]; rcases hrb with ⟨rfl, rfl⟩ | ⟨rfl, rfl⟩ <;> rfl
  have HRB := Lib.hid hrb
  clear hrb
  subst he
  dsimp only at *
  have g1 : 1 ≤ (gn : Int) := r1.1
  have g2 : (gn : Int) ≤ 2147483647 := r1.2
  have g3 : (ep : Int) ≤ 65535 := r4.2
  have g4 : (out : Int) ≤ 255 := r5.2
  have g5 : (win : Int) ≤ 16 := r6.2
  have HC := Lib.hid hc
  obtain ⟨j0, hj, hy0, hy1, hy2⟩ := info_parts uint8_info
  unfold sv at *
  dsimp only at *
  have kc := fun (w : World) (C : Array Value) (n c : Nat) => Lib.run_convert_bytes_const (P := Try.prog) w 48 5 C n c Try.underlying48 Try.underlying5
  obtain ⟨w0, hw0⟩ : ∃ w0, w0 = w.alloc (.cells #[.int .i64 (gn : Int), .int .i64 (al : Int), .int .i64 (ad : Int), .int .i64 (ac : Int), .int .i64 (bl : Int), .int .i64 (bd : Int), .int .i64 (bc : Int), .bool run, .int .i64 (win : Int), .int .i64 (ep : Int), .int .i64 (out : Int)] 72) := ⟨_, rfl⟩
  have HK : Hid (∀ W, Below w0.heap.size w0 W → W.cell? ⟨w.heap.size, 0, none⟩ = some (.int .i64 (gn : Int)) ∧ W.cell? ⟨w.heap.size, 1, none⟩ = some (.int .i64 (al : Int)) ∧ W.cell? ⟨w.heap.size, 2, none⟩ = some (.int .i64 (ad : Int)) ∧ W.cell? ⟨w.heap.size, 3, none⟩ = some (.int .i64 (ac : Int)) ∧ W.cell? ⟨w.heap.size, 4, none⟩ = some (.int .i64 (bl : Int)) ∧ W.cell? ⟨w.heap.size, 5, none⟩ = some (.int .i64 (bd : Int)) ∧ W.cell? ⟨w.heap.size, 6, none⟩ = some (.int .i64 (bc : Int)) ∧ W.cell? ⟨w.heap.size, 7, none⟩ = some (.bool run) ∧ W.cell? ⟨w.heap.size, 8, none⟩ = some (.int .i64 (win : Int)) ∧ W.cell? ⟨w.heap.size, 9, none⟩ = some (.int .i64 (ep : Int)) ∧ W.cell? ⟨w.heap.size, 10, none⟩ = some (.int .i64 (out : Int))) := by
    intro W hW
    rw [hw0] at hW
    exact box11 hW
  have B0 : Below w.heap.size w w0 := by rw [hw0]; exact belA1 (belR _)
  have z0 : w0.heap.size = w.heap.size + 1 := by rw [hw0]; simp
  have HW0 := Lib.hid hw0
  have Z0 := Lib.hid z0
  clear r1 r2 r3 r4 r5 r6 hin hk hc hw0 z0
  go_enter Try.func75, Try.ntmps75
  go_wp2_with (first
    | (go_at_call 103; rw [← HW0.out]; refine Calls.mono (HC.out _) ?_; rintro e w2 ⟨rfl, b2⟩; obtain ⟨c0, c1, c2, c3, c4, c5, c6, c7, c8, c9, c10⟩ := HK.out _  b2; have d0 := fun o => Lib.cell?_alloc_marked o c0)
    | (at_builtin; go_loud (refine wpList_append_full rfl _ _ 48 rfl j0 Try.underlying48 hj hy0 hy1 hy2 _ _ _ [87, 83, 85, 80] rfl ((Byt.lit w2 _ _ [87, 83, 85, 80] rfl rfl rfl (by decide) (by decide)).up (belA1 (belR _))) _ _ _ _ [gn / 16777216 % 256, gn / 65536 % 256, gn / 256 % 256, gn % 256] rfl (Byt.lit _ _ _ _ (by simp) rfl (by simp [u8v]; omega) (by intro x hx; simp at hx; omega) (by simp)) (by simp) (by simp) ?_); intro v3 w3 O3 g3x))
  have b3 : Below w0.heap.size w0 w3 := belGN (belA2 b2) g3x
  have O3 := own_mono O3 (belA2 b2).size
  obtain ⟨l8, hl8⟩ : ∃ l8, l8 = [87, 83, 85, 80] ++ [gn / 16777216 % 256, gn / 65536 % 256, gn / 256 % 256, gn % 256] := ⟨_, rfl⟩
  have L8 : Hid (l8.length = 8) := by show _ = _; rw [hl8]; rfl
  rw [← hl8] at O3 HE
  have W8 := Lib.hid hl8
  clear hl8 g3x b2 d0 c0 c1 c2 c3 c4 c5 c6 c7 c8 c9 c10 kc
  go_cut [5] from 31 to 39 (fun v W => ∃ v', v = v' ∧ Own W w0.heap.size v' ((l8 ++ (Geo.mk al ad ac).bytes) ++ (Geo.mk bl bd bc).bytes) ∧ Below w0.heap.size w0 W)
  case first =>
    refine wp_region_held_drew (S := fun W => W.cell? ⟨w.heap.size, 1, none⟩ = some (.int .i64 (al : Int)) ∧ W.cell? ⟨w.heap.size, 2, none⟩ = some (.int .i64 (ad : Int)) ∧ W.cell? ⟨w.heap.size, 3, none⟩ = some (.int .i64 (ac : Int)) ∧ W.cell? ⟨w.heap.size, 4, none⟩ = some (.int .i64 (bl : Int)) ∧ W.cell? ⟨w.heap.size, 5, none⟩ = some (.int .i64 (bd : Int)) ∧ W.cell? ⟨w.heap.size, 6, none⟩ = some (.int .i64 (bc : Int))) (by kernel_rfl) (by obtain ⟨d0, d1, d2, d3, d4, d5, d6, d7, d8, d9, d10⟩ := HK.out _ (by iterate 8 try (first | assumption | apply belDr | apply belAlloc | exact belR _)); exact ⟨d1, d2, d3, d4, d5, d6⟩) (fun hHeld => ?_)
    refine wpAnyH_take (i := 0) (oi := _) (v := ?_) rfl (by kernel_rfl) (by kernel_rfl) (by kernel_rfl) (fun _ _ _ h => h) (Or.inl ⟨by rfl, ?_⟩) (by assumption) ?_
    rotate_left
    · intro w hSw
      (try dsimp only at hSw)
      go_simp
      try with_reducible rfl
    try simp only [Act.put, List.getElem_toArray, List.getElem_cons_zero, List.getElem_cons_succ, List.setIfInBounds_toArray, List.set_cons_zero, List.set_cons_succ]
    refine wpAnyH_take (i := 1) (oi := _) (v := ?_) rfl (by kernel_rfl) (by kernel_rfl) (by kernel_rfl) (fun _ _ _ h => h) (Or.inl ⟨by rfl, ?_⟩) (by assumption) ?_
    rotate_left
    · intro w hSw
      (try dsimp only at hSw)
      go_simp
      try with_reducible rfl
    try simp only [Act.put, List.getElem_toArray, List.getElem_cons_zero, List.getElem_cons_succ, List.setIfInBounds_toArray, List.set_cons_zero, List.set_cons_succ]
    refine wpAnyH_take (i := 2) (oi := _) (v := ?_) rfl (by kernel_rfl) (by kernel_rfl) (by kernel_rfl) (fun _ _ _ h => h) (Or.inl ⟨by rfl, ?_⟩) (by assumption) ?_
    rotate_left
    · intro w hSw
      (try dsimp only at hSw)
      go_simp
      try with_reducible rfl
    try simp only [Act.put, List.getElem_toArray, List.getElem_cons_zero, List.getElem_cons_succ, List.setIfInBounds_toArray, List.set_cons_zero, List.set_cons_succ]
    refine wpAnyH_take (i := 5) (oi := _) (v := ?_) rfl (by kernel_rfl) (by kernel_rfl) (by kernel_rfl) (fun _ _ _ h => h) (Or.inl ⟨by rfl, ?_⟩) (by assumption) ?_
    rotate_left
    · intro w hSw
      (try dsimp only at hSw)
      go_simp
      try with_reducible rfl
    try simp only [Act.put, List.getElem_toArray, List.getElem_cons_zero, List.getElem_cons_succ, List.setIfInBounds_toArray, List.set_cons_zero, List.set_cons_succ]
    refine wpAnyH_take (i := 6) (oi := _) (v := ?_) rfl (by kernel_rfl) (by kernel_rfl) (by kernel_rfl) (fun _ _ _ h => h) (Or.inl ⟨by rfl, ?_⟩) (by assumption) ?_
    rotate_left
    · intro w hSw
      (try dsimp only at hSw)
      go_simp
      try with_reducible rfl
    try simp only [Act.put, List.getElem_toArray, List.getElem_cons_zero, List.getElem_cons_succ, List.setIfInBounds_toArray, List.set_cons_zero, List.set_cons_succ]
    refine wpAnyH_ready (rs := [3]) (by kernel_rfl) (by simp) ?_
    refine AllReadyH.cons (o := _) rfl (fun K hK => ?_) AllReadyH.nil
    go_simp
    refine Calls.mono (of_any al ad ac _) ?_
    rintro e wa ⟨ga, rfl, Oa, ba⟩
    have Ba : Below w0.heap.size w0 wa := belT (by iterate 8 try (first | assumption | apply belDr | apply belAlloc | exact belR _)) ba
    try go_simp
    refine hK.out _ _ (by obtain ⟨d0, d1, d2, d3, d4, d5, d6, d7, d8, d9, d10⟩ := HK.out _ (by iterate 8 try (first | assumption | apply belDr | apply belAlloc | exact belR _)); exact ⟨d1, d2, d3, d4, d5, d6⟩) (fun hHeld => ?_)
    clear hK K
    try simp only [Act.put, List.getElem_toArray, List.getElem_cons_zero, List.getElem_cons_succ, List.setIfInBounds_toArray, List.set_cons_zero, List.set_cons_succ]
    have O3a : Own wa w0.heap.size v3 l8 := O3.up (belT (belDr (belR _)) ba)
    refine wpAnyH_ready (rs := [4]) (by kernel_rfl) (by simp) ?_
    refine AllReadyH.cons (o := _) rfl (fun K hK => ?_) AllReadyH.nil
    rw [if_pos (by rfl)]
    refine wp_append_bytes _ _ 48 rfl j0 Try.underlying48 hj hy0 hy1 hy2 w0.heap.size v3 _ rfl O3a _ _ _ _ _ rfl Oa.byt (by simp [L8.out, Geo.bytes]) Ba.size ?_
    intro v4 w4 Ov4 gw4
    have Bw4 : Below w0.heap.size w0 w4 := belG Ba gw4 (fun g hg => Own.ge O3a g hg)
    refine hK.out _ _ (by obtain ⟨d0, d1, d2, d3, d4, d5, d6, d7, d8, d9, d10⟩ := HK.out _ (by iterate 8 try (first | assumption | apply belDr | apply belAlloc | exact belR _)); exact ⟨d1, d2, d3, d4, d5, d6⟩) (fun hHeld => ?_)
    clear hK K
    try simp only [Act.put, List.getElem_toArray, List.getElem_cons_zero, List.getElem_cons_succ, List.setIfInBounds_toArray, List.set_cons_zero, List.set_cons_succ]
    refine wpAnyH_ready (rs := [7]) (by kernel_rfl) (by simp) ?_
    refine AllReadyH.cons (o := _) rfl (fun K hK => ?_) AllReadyH.nil
    go_simp
    refine Calls.mono (of_any bl bd bc _) ?_
    rintro e wb ⟨gb, rfl, Ob, bb⟩
    have Bb : Below w0.heap.size w0 wb := belT (by iterate 8 try (first | assumption | apply belDr | apply belAlloc | exact belR _)) bb
    try go_simp
    refine hK.out _ _ (by obtain ⟨d0, d1, d2, d3, d4, d5, d6, d7, d8, d9, d10⟩ := HK.out _ (by iterate 8 try (first | assumption | apply belDr | apply belAlloc | exact belR _)); exact ⟨d1, d2, d3, d4, d5, d6⟩) (fun hHeld => ?_)
    clear hK K
    try simp only [Act.put, List.getElem_toArray, List.getElem_cons_zero, List.getElem_cons_succ, List.setIfInBounds_toArray, List.set_cons_zero, List.set_cons_succ]
    have O4b : Own wb w0.heap.size v4 _ := Ov4.up bb
    refine wpAnyH_ready (rs := [8]) (by kernel_rfl) (by simp) ?_
    refine AllReadyH.cons (o := _) rfl (fun K hK => ?_) AllReadyH.nil
    rw [if_pos (by rfl)]
    refine wp_append_bytes _ _ 48 rfl j0 Try.underlying48 hj hy0 hy1 hy2 w0.heap.size v4 _ rfl O4b _ _ _ _ _ rfl Ob.byt (by simp [L8.out, Geo.bytes]) Bb.size ?_
    intro v5 w5 Ov5 gw5
    have Bw5 : Below w0.heap.size w0 w5 := belG Bb gw5 (fun g hg => Own.ge O4b g hg)
    refine hK.out _ _ (by obtain ⟨d0, d1, d2, d3, d4, d5, d6, d7, d8, d9, d10⟩ := HK.out _ (by iterate 8 try (first | assumption | apply belDr | apply belAlloc | exact belR _)); exact ⟨d1, d2, d3, d4, d5, d6⟩) (fun hHeld => ?_)
    clear hK K
    try simp only [Act.put, List.getElem_toArray, List.getElem_cons_zero, List.getElem_cons_succ, List.setIfInBounds_toArray, List.set_cons_zero, List.set_cons_succ]
    refine wpAnyH_take (i := 9) (oi := _) (v := ?_) rfl (by kernel_rfl) (by kernel_rfl) (by kernel_rfl) (fun _ _ _ h => h) (Or.inl ⟨by rfl, ?_⟩) (by assumption) ?_
    rotate_left
    · intro w hSw
      (try dsimp only at hSw)
      go_simp
      try with_reducible rfl
    try simp only [Act.put, List.getElem_toArray, List.getElem_cons_zero, List.getElem_cons_succ, List.setIfInBounds_toArray, List.set_cons_zero, List.set_cons_succ]
    refine wpAnyH_done (by kernel_rfl) ?_ _
    go_wp2
    go_meet
    case rel => exact ⟨v5, rfl, Ov5, Bw5⟩
  obtain ⟨v5, rfl, O5, B5⟩ := hcut
  obtain ⟨l14, hl14⟩ : ∃ l, l = (l8 ++ (Geo.mk al ad ac).bytes) ++ (Geo.mk bl bd bc).bytes := ⟨_, rfl⟩
  have L14 : Hid (l14.length = 14) := by show _ = _; rw [hl14]; simp [L8.out, Geo.bytes]
  rw [← hl14] at O5 HE
  have W14 := Lib.hid hl14
  clear hl14
  obtain ⟨c0, c1, c2, c3, c4, c5, c6, c7, c8, c9, c10⟩ := HK.out _  B5
  have Q5 := O5.byt.shapeN L14.out
  obtain ⟨ao5, cap5, rfl, q5, q5'⟩ := Q5
  have l19 : Hid ((l14 ++ [rb, win % 256, ep / 256 % 256, ep % 256, out % 256]).length = 19) := by show _ = _; rw [List.length_append, L14.out]; rfl
  have rb8 : rb < 256 := by rcases HRB.out with ⟨_, rfl⟩ | ⟨_, rfl⟩ <;> decide
  have hrv : Hid (∀ b : Bool, run = b → rb = if b then 1 else 0) := by intro b hb; rcases HRB.out with ⟨rfl, rfl⟩ | ⟨rfl, rfl⟩ <;> subst hb <;> rfl
  have e1 : Hid (run = true ∧ rb = 1 ∨ run = false ∧ rb = 0) := HRB
  clear HRB hrv
  rcases e1.out with ⟨rfl, rfl⟩ | ⟨rfl, rfl⟩
  · clear e1
    go_wp2_with (first
      | (at_builtin; go_loud (refine wpList_append_zbytes rfl (.tmp 59) (.tmp 62) 48 3 rfl j0 Try.underlying48 .i64 .i64 Try.underlying3 hj hy0 hy1 hy2 w0.heap.size _ _ rfl O6 13 rfl (by decide) (by rw [l19.out]; decide) B6.size ?_); intro v7 w7 O7 g7x; have B7 : Below w0.heap.size w0 w7 := belG B6 g7x (fun g hg => O6.ge g hg))
      | (at_builtin; go_loud (refine wpList_append_bytes rfl (.tmp 42) (.tmp 57) 48 rfl j0 Try.underlying48 hj hy0 hy1 hy2 w0.heap.size _ l14 rfl (O5.up (belA1 (belR _))) _ [1, win % 256, ep / 256 % 256, ep % 256, out % 256] rfl (Byt.lit _ _ _ [1, win % 256, ep / 256 % 256, ep % 256, out % 256] (by simp) rfl (by simp [u8v]; omega) (by intro x hx; simp at hx; omega) (by simp)) (by rw [L14.out]; simp) (by have := B5.size; simp; omega) ?_); intro v6 w6 O6 g6x; have B6 : Below w0.heap.size w0 w6 := belG (belA1 B5) g6x (fun g hg => O5.ge g hg); obtain ⟨ao6, cap6, rfl, q6, q6'⟩ := O6.byt.shapeN l19.out)
      | (go_at_call 95; refine Calls.mono (seal_yes _ _ _ [] _ w0.heap.size O7 (by rw [List.length_append, l19.out]; rfl) (Parts.nil _) (by simp)) ?_; rintro e w8 ⟨rfl, O8, g8x⟩; have B8 : Below w0.heap.size w0 w8 := belG B7 g8x (fun g hg => O7.ge g hg)))
    go_ret2
    refine ⟨_, rfl, ?_, belT B0 B8⟩
    rw [HE.out]
    exact own_mono O8 B0.size
  · clear e1
    go_wp2_with (first
      | (at_builtin; go_loud (refine wpList_append_zbytes rfl (.tmp 59) (.tmp 62) 48 3 rfl j0 Try.underlying48 .i64 .i64 Try.underlying3 hj hy0 hy1 hy2 w0.heap.size _ _ rfl O6 13 rfl (by decide) (by rw [l19.out]; decide) B6.size ?_); intro v7 w7 O7 g7x; have B7 : Below w0.heap.size w0 w7 := belG B6 g7x (fun g hg => O6.ge g hg))
      | (at_builtin; go_loud (refine wpList_append_bytes rfl (.tmp 42) (.tmp 57) 48 rfl j0 Try.underlying48 hj hy0 hy1 hy2 w0.heap.size _ l14 rfl (O5.up (belA1 (belR _))) _ [0, win % 256, ep / 256 % 256, ep % 256, out % 256] rfl (Byt.lit _ _ _ [0, win % 256, ep / 256 % 256, ep % 256, out % 256] (by simp) rfl (by simp [u8v]; omega) (by intro x hx; simp at hx; omega) (by simp)) (by rw [L14.out]; simp) (by have := B5.size; simp; omega) ?_); intro v6 w6 O6 g6x; have B6 : Below w0.heap.size w0 w6 := belG (belA1 B5) g6x (fun g hg => O5.ge g hg); obtain ⟨ao6, cap6, rfl, q6, q6'⟩ := O6.byt.shapeN l19.out)
      | (go_at_call 95; refine Calls.mono (seal_yes _ _ _ [] _ w0.heap.size O7 (by rw [List.length_append, l19.out]; rfl) (Parts.nil _) (by simp)) ?_; rintro e w8 ⟨rfl, O8, g8x⟩; have B8 : Below w0.heap.size w0 w8 := belG B7 g8x (fun g hg => O7.ge g hg)))
    go_ret2
    refine ⟨_, rfl, ?_, belT B0 B8⟩
    rw [HE.out]
    exact own_mono O8 B0.size
end Go.Proofs.Ytenjpldinnbcbaa
/- The walk of super.geometry; boxes of a Super's cells. -/

namespace Go.Proofs.Ytenjpldinnbcbaa
open Go.RowKit C
set_option linter.unusedVariables false
set_option linter.unusedSimpArgs false
set_option maxRecDepth 100000
set_option maxHeartbeats 4000000

theorem bor64 {a c : Nat} (ha : a < 4294967296) (hc : c < 256) : bits .or .i64 ((a : Int) * 256) (c : Int) = ((a * 256 + c : Nat) : Int) := by
  show IntKind.i64.wrap ((BitVec.ofInt 64 ((a : Int) * 256) ||| BitVec.ofInt 64 (c : Int)).toNat : Int) = _
  rw [show ((a : Int) * 256) = ((a * 256 : Nat) : Int) by omega]
  simp only [BitVec.ofInt_natCast, IntKind.wrap_i64, BitVec.toNat_or, BitVec.toNat_ofNat]
  rw [Nat.mod_eq_of_lt (show a * 256 < 2 ^ 64 by omega), Nat.mod_eq_of_lt (show c < 2 ^ 64 by omega)]
  have : a * 256 ||| c = a * 256 + c := by
    have := Nat.shiftLeft_add_eq_or_of_lt (b := c) (i := 8) hc a
    rw [Nat.shiftLeft_eq] at this
    exact this.symm
  rw [this]; omega
theorem Byt.at3 {w : World} {ao : Option Addr} {n cap : Nat} {l : List Nat} (h : Byt w (.slice ao n cap) l) (h3 : 3 ≤ n) :
    ∃ b off, ao = some ⟨b, off, none⟩ ∧ w.cell? ⟨b, off, none⟩ = some (.int .u8 (l.getD 0 0 : Nat)) ∧ w.cell? ⟨b, off + 1, none⟩ = some (.int .u8 (l.getD 1 0 : Nat)) ∧ w.cell? ⟨b, off + 2, none⟩ = some (.int .u8 (l.getD 2 0 : Nat)) ∧ l.getD 0 0 < 256 ∧ l.getD 1 0 < 256 ∧ l.getD 2 0 < 256 := by
  obtain ⟨b, off, x, rfl, hx, hk, h8⟩ := h.get (k := 0) (by omega)
  obtain ⟨b', off', y, e, hy, hk', h8'⟩ := h.get (k := 1) (by omega)
  cases e
  obtain ⟨b', off', z, e, hz, hk'', h8''⟩ := h.get (k := 2) (by omega)
  cases e
  have e0 : l.getD 0 0 = x := by simp [List.getD, hk.out]
  have e1 : l.getD 1 0 = y := by simp [List.getD, hk'.out]
  have e2 : l.getD 2 0 = z := by simp [List.getD, hk''.out]
  rw [e0, e1, e2]
  exact ⟨b, off, rfl, hx, hy, hz, h8, h8', h8''⟩
theorem geometry_any (ao : Option Addr) (n cap : Nat) (l : List Nat) (w : World) (h : Byt w (.slice ao n cap) l) (h3 : 3 ≤ n) (hn : n ≤ 1048576) :
    Calls Try.prog 119 #[.slice ao n cap] w fun e w' => e = .returned (.agg #[.int .i64 (l.getD 0 0 : Nat), .int .i64 (l.getD 1 0 : Nat), .int .i64 (l.getD 2 0 : Nat)]) ∧ Below w.heap.size w w' := by
  obtain ⟨b, off, rfl, k0, k1, k2, x8, y8, z8⟩ := h.at3 h3
  generalize l.getD 0 0 = x at *
  generalize l.getD 1 0 = y at *
  generalize l.getD 2 0 = z at *
  clear h
  have x64 : IntKind.i64.wrap (x : Int) = (x : Int) := by rw [IntKind.wrap_i64]; omega
  have y64 : IntKind.i64.wrap (y : Int) = (y : Int) := by rw [IntKind.wrap_i64]; omega
  have z64 : IntKind.i64.wrap (z : Int) = (z : Int) := by rw [IntKind.wrap_i64]; omega
  have g0 : 0 < n := by omega
  have hlt := World.block_lt_of_cell? _ _ k0
  have HK : Hid (∀ W, Below w.heap.size w W → W.cell? ⟨b, off, none⟩ = some (.int .u8 (x : Nat)) ∧ W.cell? ⟨b, off + 1, none⟩ = some (.int .u8 (y : Nat)) ∧ W.cell? ⟨b, off + 2, none⟩ = some (.int .u8 (z : Nat))) := by
    intro W hW
    rw [hW.cell hlt, hW.cell (p := ⟨b, off + 1, none⟩) hlt, hW.cell (p := ⟨b, off + 2, none⟩) hlt]
    exact ⟨k0, k1, k2⟩
  have g1 : (0 : Int) < (n : Int) := by omega
  have g2 : (1 : Int) < (n : Int) := by omega
  have g3 : (2 : Int) < (n : Int) := by omega
  go_enter Try.func119, Try.ntmps119
  go_wp2_with fail
  go_region_held3 (fun W => W.cell? ⟨b, off, none⟩ = some (.int .u8 (x : Nat)) ∧ W.cell? ⟨b, off + 1, none⟩ = some (.int .u8 (y : Nat)) ∧ W.cell? ⟨b, off + 2, none⟩ = some (.int .u8 (z : Nat)))
    (first | (refine HK.out _ ?_; iterate 8 try (first | assumption | apply belDr | apply belAlloc | exact belR _)) | trace_state) (fail)
  go_wp2
  exact bodyPost_ret (v := .agg #[.int .i64 x, .int .i64 y, .int .i64 z]) (by simp [results, Try.results119, go_sem]) rfl ⟨rfl, belDr (belA1 (belR _))⟩
end Go.Proofs.Ytenjpldinnbcbaa
