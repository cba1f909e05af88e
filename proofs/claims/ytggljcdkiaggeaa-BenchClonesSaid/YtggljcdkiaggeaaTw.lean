/- Two benches side by side, each with its own blocks: what is done to the one does not become of the other. -/
import Derived.Test.YtggljcdkiaggeaaCln
namespace Go.Proofs.Ytggljcdkiaggeaa
open Go.RowKit
def Cl3 (W : World) (lv : Value) (gc : Nat) (lv2 : Value) (b1 b2 : B.Bn) (w' : World) : Prop :=
  ∃ hs1 hs2, IsBench w' W.heap.size W.heap.size lv hs1 b1 ∧ IsBench w' gc gc lv2 hs2 b2 ∧ (∀ x, ofB gc lv2 hs2 x → ¬ ofB W.heap.size lv hs1 x) ∧ Below W.heap.size W w' ∧ W.heap.size < gc
theorem Cl3.up {W w w' : World} {lv lv2 : Value} {gc : Nat} {b1 b2 : B.Bn} (h : Cl3 W lv gc lv2 b1 b2 w) (k : Below w.heap.size w w') : Cl3 W lv gc lv2 b1 b2 w' := by
  obtain ⟨hs1, hs2, H1, H2, ap, B, hg⟩ := h
  exact ⟨hs1, hs2, H1.up k, H2.up k, ap, belT B k, hg⟩
theorem Cl3.bel {W w : World} {lv lv2 : Value} {gc : Nat} {b1 b2 : B.Bn} (h : Cl3 W lv gc lv2 b1 b2 w) : Below W.heap.size W w := by
  obtain ⟨_, _, _, _, _, B, _⟩ := h
  exact B
/-- the first one is changed -/
theorem Cl3.one {W w w' : World} {lv lv2 : Value} {gc : Nat} {b1 b1' b2 : B.Bn} {hs1 hs1' hs2 : List (Nat × Value)} (H1 : IsBench w W.heap.size W.heap.size lv hs1 b1) (H2 : IsBench w gc gc lv2 hs2 b2) (ap : ∀ x, ofB gc lv2 hs2 x → ¬ ofB W.heap.size lv hs1 x) (B : Below W.heap.size W w) (hg : W.heap.size < gc)
    (K : IsBench w' W.heap.size W.heap.size lv hs1' b1') (F : Fr (ofB W.heap.size lv hs1) w w') (q : ∀ y, ofB W.heap.size lv hs1' y → ofB W.heap.size lv hs1 y ∨ w.heap.size ≤ y) : Cl3 W lv gc lv2 b1' b2 w' :=
  ⟨hs1', hs2, K, H2.fr F ap, fun x hx ho => by rcases q x ho with h | h; exact ap x hx h; have := H2.lts x hx; omega, Fr.below B F B.size (fun y hy => H1.ges y hy), hg⟩
/-- the second one is changed -/
theorem Cl3.two {W w w' : World} {lv lv2 : Value} {gc : Nat} {b1 b2 b2' : B.Bn} {hs1 hs2 hs2' : List (Nat × Value)} (H1 : IsBench w W.heap.size W.heap.size lv hs1 b1) (H2 : IsBench w gc gc lv2 hs2 b2) (ap : ∀ x, ofB gc lv2 hs2 x → ¬ ofB W.heap.size lv hs1 x) (B : Below W.heap.size W w) (hg : W.heap.size < gc)
    (K : IsBench w' gc gc lv2 hs2' b2') (F : Fr (ofB gc lv2 hs2) w w') (q : ∀ y, ofB gc lv2 hs2' y → ofB gc lv2 hs2 y ∨ w.heap.size ≤ y) : Cl3 W lv gc lv2 b1 b2' w' :=
  ⟨hs1, hs2', H1.fr F (fun x hx hy => ap x hy hx), K, fun x hx ho => by rcases q x hx with h | h; exact ap x h ho; have := H1.lts x ho; omega, Fr.below B F B.size (fun y hy => by have := H2.ges y hy; omega), hg⟩
theorem cl3_write1 {W w0 w5 : World} {lv lv2 : Value} {gc : Nat} {b1 b2 : B.Bn} {n B0 : Nat} {v : Value} {x : List Nat} (d a : Int) (h : Cl3 W lv gc lv2 b1 b2 w0) (I : BI b1 n) (hn : n ≤ 1000) (k : Below w0.heap.size w0 w5) (ho : Own w5 B0 v x) (hb : w0.heap.size ≤ B0) :
    Calls Try.prog 38 #[.pointer (some ⟨W.heap.size, 0, none⟩), .int .i64 d, .int .i64 a, v] w5 fun e w' => e = .returned (.int .i64 (B.writeE b1 d a x)) ∧ Cl3 W lv gc lv2 (B.write b1 d a x) b2 w' := by
  obtain ⟨hs1, hs2, H1, H2, ap, B, hg⟩ := h
  have hsz := I.sz hn
  have B5 := belT B k
  refine (bwrite_any w5 _ _ _ _ _ d a v x (H1.up k) ho.byt (fun y hy hof => by have h8 := ho.ge y hy; have h9 := H1.lts y hof; omega) B5.size hsz.1 hsz.2.1 hsz.2.2).mono ?_
  rintro e w' ⟨rfl, hs5, H5, F5, q5⟩
  exact ⟨rfl, Cl3.one (H1.up k) (H2.up k) ap B5 hg H5 F5 q5⟩
theorem cl3_write2 {W w0 w5 : World} {lv lv2 : Value} {gc : Nat} {b1 b2 : B.Bn} {n B0 : Nat} {v : Value} {x : List Nat} (d a : Int) (h : Cl3 W lv gc lv2 b1 b2 w0) (I : BI b2 n) (hn : n ≤ 1000) (k : Below w0.heap.size w0 w5) (ho : Own w5 B0 v x) (hb : w0.heap.size ≤ B0) :
    Calls Try.prog 38 #[.pointer (some ⟨gc, 0, none⟩), .int .i64 d, .int .i64 a, v] w5 fun e w' => e = .returned (.int .i64 (B.writeE b2 d a x)) ∧ Cl3 W lv gc lv2 b1 (B.write b2 d a x) w' := by
  obtain ⟨hs1, hs2, H1, H2, ap, B, hg⟩ := h
  have hsz := I.sz hn
  have B5 := belT B k
  refine (bwrite_any w5 _ _ _ _ _ d a v x (H2.up k) ho.byt (fun y hy hof => by have h8 := ho.ge y hy; have h9 := H2.lts y hof; omega) (by have := (H2.up k).lt; omega) hsz.1 hsz.2.1 hsz.2.2).mono ?_
  rintro e w' ⟨rfl, hs5, H5, F5, q5⟩
  exact ⟨rfl, Cl3.two (H1.up k) (H2.up k) ap B5 hg H5 F5 q5⟩
theorem cl3_crash1 {W w : World} {lv lv2 kv : Value} {gc : Nat} {b1 b2 : B.Bn} {ks : List Bool} (h : Cl3 W lv gc lv2 b1 b2 w) (hks : Bools W kv ks) :
    Calls Try.prog 39 #[.pointer (some ⟨W.heap.size, 0, none⟩), kv] w fun e w' => e = .returned (.tuple #[]) ∧ Cl3 W lv gc lv2 (B.crash b1 ks) b2 w' := by
  obtain ⟨hs1, hs2, H1, H2, ap, B, hg⟩ := h
  refine (bcrash_any w _ _ _ _ _ kv ks H1 (hks.up B) (fun hn y hy ho => by have h1 := Bools.lt hks hn y hy; have h2 := H1.ges y ho; omega)).mono ?_
  rintro e w' ⟨rfl, hs5, H5, F5, q5⟩
  exact ⟨rfl, Cl3.one H1 H2 ap B hg H5 F5 q5⟩
theorem cl3_crash2 {W w : World} {lv lv2 kv : Value} {gc : Nat} {b1 b2 : B.Bn} {ks : List Bool} (h : Cl3 W lv gc lv2 b1 b2 w) (hks : Bools W kv ks) :
    Calls Try.prog 39 #[.pointer (some ⟨gc, 0, none⟩), kv] w fun e w' => e = .returned (.tuple #[]) ∧ Cl3 W lv gc lv2 b1 (B.crash b2 ks) w' := by
  obtain ⟨hs1, hs2, H1, H2, ap, B, hg⟩ := h
  refine (bcrash_any w _ _ _ _ _ kv ks H2 (hks.up B) (fun hn y hy ho => by have h1 := Bools.lt hks hn y hy; have h2 := H2.ges y ho; omega)).mono ?_
  rintro e w' ⟨rfl, hs5, H5, F5, q5⟩
  exact ⟨rfl, Cl3.two H1 H2 ap B hg H5 F5 q5⟩
theorem cl3_read1 {W w : World} {lv lv2 : Value} {gc : Nat} {b1 b2 : B.Bn} (d a : Int) (h : Cl3 W lv gc lv2 b1 b2 w) :
    Calls Try.prog 40 #[.pointer (some ⟨W.heap.size, 0, none⟩), .int .i64 d, .int .i64 a] w fun e w' => ∃ v, e = .returned (.tuple #[v, .int .i64 (B.readE b1 d a)]) ∧ Own w' w.heap.size v (B.readL b1 d a) ∧ Below w.heap.size w w' := by
  obtain ⟨hs1, hs2, H1, H2, ap, B, hg⟩ := h
  exact bread_any w _ _ _ _ _ d a H1
theorem cl3_read2 {W w : World} {lv lv2 : Value} {gc : Nat} {b1 b2 : B.Bn} (d a : Int) (h : Cl3 W lv gc lv2 b1 b2 w) :
    Calls Try.prog 40 #[.pointer (some ⟨gc, 0, none⟩), .int .i64 d, .int .i64 a] w fun e w' => ∃ v, e = .returned (.tuple #[v, .int .i64 (B.readE b2 d a)]) ∧ Own w' w.heap.size v (B.readL b2 d a) ∧ Below w.heap.size w w' := by
  obtain ⟨hs1, hs2, H1, H2, ap, B, hg⟩ := h
  exact bread_any w _ _ _ _ _ d a H2
theorem cl3_down1 {W w : World} {lv lv2 : Value} {gc : Nat} {b1 b2 : B.Bn} (h : Cl3 W lv gc lv2 b1 b2 w) :
    Calls Try.prog 48 #[.pointer (some ⟨W.heap.size, 0, none⟩)] w fun e w' => e = .returned (.bool b1.down) ∧ w = w' := by
  obtain ⟨hs1, hs2, H1, H2, ap, B, hg⟩ := h
  exact bdown_any w _ _ _ _ _ H1
theorem cl3_down2 {W w : World} {lv lv2 : Value} {gc : Nat} {b1 b2 : B.Bn} (h : Cl3 W lv gc lv2 b1 b2 w) :
    Calls Try.prog 48 #[.pointer (some ⟨gc, 0, none⟩)] w fun e w' => e = .returned (.bool b2.down) ∧ w = w' := by
  obtain ⟨hs1, hs2, H1, H2, ap, B, hg⟩ := h
  exact bdown_any w _ _ _ _ _ H2
theorem cl3_fail2 {W w : World} {lv lv2 : Value} {gc : Nat} {b1 b2 : B.Bn} (i : Nat) (h : Cl3 W lv gc lv2 b1 b2 w) (hi : i < b2.ds.length) :
    Calls Try.prog 44 #[.pointer (some ⟨gc, 0, none⟩), .int .i64 i] w fun e w' => e = .returned (.int .i64 0) ∧ Cl3 W lv gc lv2 b1 { b2 with ds := b2.ds.set i D.fail } w' := by
  obtain ⟨hs1, hs2, H1, H2, ap, B, hg⟩ := h
  refine (bfail_any w _ _ _ _ _ i H2 hi).mono ?_
  rintro e w' ⟨rfl, hs5, H5, F5, q5⟩
  exact ⟨rfl, Cl3.two H1 H2 ap B hg H5 F5 q5⟩
theorem cl3_limit2 {W w : World} {lv lv2 : Value} {gc : Nat} {b1 b2 : B.Bn} (n : Int) (h : Cl3 W lv gc lv2 b1 b2 w) (hn : -9223372036854775808 ≤ n ∧ n ≤ 9223372036854775807) :
    Calls Try.prog 47 #[.pointer (some ⟨gc, 0, none⟩), .int .i64 n] w fun e w' => e = .returned (.tuple #[]) ∧ Cl3 W lv gc lv2 b1 { b2 with left := if n < -1 then -1 else n } w' := by
  obtain ⟨hs1, hs2, H1, H2, ap, B, hg⟩ := h
  refine (blimit_any w _ _ _ _ _ n H2 hn).mono ?_
  rintro e w' ⟨rfl, H5, F5⟩
  exact ⟨rfl, Cl3.two H1 H2 ap B hg H5 (F5.mono (fun x hx => .inl hx)) (fun y hy => .inl hy)⟩
theorem cl3_failed1 {W w : World} {lv lv2 : Value} {gc : Nat} {b1 b2 : B.Bn} (i : Nat) (h : Cl3 W lv gc lv2 b1 b2 w) (hi : i < b1.ds.length) :
    Calls Try.prog 45 #[.pointer (some ⟨W.heap.size, 0, none⟩), .int .i64 i] w fun e w' => e = .returned (.bool (B.dk b1 i).f) ∧ w = w' := by
  obtain ⟨hs1, hs2, H1, H2, ap, B, hg⟩ := h
  exact bfailed_any w _ _ _ _ _ i H1 hi
end Go.Proofs.Ytggljcdkiaggeaa
