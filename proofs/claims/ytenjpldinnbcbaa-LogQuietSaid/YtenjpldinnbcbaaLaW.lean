/- What a law about records keeps beside its bench: a box with a record, its items, rows of truths. -/
import Derived.Test.YtenjpldinnbcbaaLaA
import Derived.Test.YtenjpldinnbcbaaRecS
import Derived.Test.YtenjpldinnbcbaaRecO
namespace Go.Proofs.Ytenjpldinnbcbaa
open Go.RowKit C
set_option linter.unusedVariables false
set_option linter.unusedSimpArgs false
set_option maxRecDepth 100000
set_option maxHeartbeats 2000000

structure LO (w : World) (g : Nat) (lv : Value) (hs : List (Nat × Value)) (c : B.Bn) (gr : Nat) (s : Int) (v : Value) (L : List RI) (va vl : Value) (la ll : List Bool) (X : World) : Prop where
  ben : IsBench X w.heap.size g lv hs c
  box : Box X gr [.int .i64 s, v]
  out : ¬ ofB g lv hs gr
  lt : gr < X.heap.size
  its : IA (ofB g lv hs) X v L
  al : BA (ofB g lv hs) X va la
  li : BA (ofB g lv hs) X vl ll
  bel : Below w.heap.size w X
theorem LO.up {w : World} {g : Nat} {lv : Value} {hs : List (Nat × Value)} {c : B.Bn} {gr : Nat} {s : Int} {v : Value} {L : List RI} {va vl : Value} {la ll : List Bool} {X Y : World} (h : LO w g lv hs c gr s v L va vl la ll X) (k : Below X.heap.size X Y) : LO w g lv hs c gr s v L va vl la ll Y :=
  ⟨h.ben.up k, h.box.fr (Fr.of_below (S := fun _ => False) k) id, h.out, Nat.lt_of_lt_of_le h.lt k.size, h.its.up k, h.al.up k, h.li.up k, belT h.bel k⟩
theorem LO.step {w : World} {g : Nat} {lv : Value} {hs hs' : List (Nat × Value)} {c c' : B.Bn} {gr : Nat} {s : Int} {v : Value} {L : List RI} {va vl : Value} {la ll : List Bool} {X Y : World} (h : LO w g lv hs c gr s v L va vl la ll X) (I : IsBench Y w.heap.size g lv hs' c') (F : Fr (ofB g lv hs) X Y) (q : ∀ y, ofB g lv hs' y → ofB g lv hs y ∨ X.heap.size ≤ y) : LO w g lv hs' c' gr s v L va vl la ll Y :=
  ⟨I, h.box.fr F h.out, (fun e => by
    rcases q gr e with h1 | h1
    · exact h.out h1
    · have := h.lt; omega), Nat.lt_of_lt_of_le h.lt F.size, h.its.step F q, h.al.step F q, h.li.step F q, Fr.below h.bel F h.bel.size h.ben.ges⟩
theorem LO.cells {w : World} {g : Nat} {lv : Value} {hs : List (Nat × Value)} {c : B.Bn} {gr : Nat} {s : Int} {v : Value} {L : List RI} {va vl : Value} {la ll : List Bool} {X : World} (h : LO w g lv hs c gr s v L va vl la ll X) : X.cell? ⟨gr, 0, none⟩ = some (.int .i64 s) ∧ X.cell? ⟨gr, 1, none⟩ = some v := h.box.two.1
end Go.Proofs.Ytenjpldinnbcbaa
