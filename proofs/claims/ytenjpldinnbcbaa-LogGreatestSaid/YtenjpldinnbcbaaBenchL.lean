/- What a bench answers, in plain terms; and the document's own example of a bench. -/
import Derived.Test.YtenjpldinnbcbaaBenchN
namespace Go.Proofs.Ytenjpldinnbcbaa
open Go.RowKit
set_option linter.unusedVariables false
set_option linter.unusedSimpArgs false
set_option maxRecDepth 100000
set_option maxHeartbeats 1000000
namespace B
theorem may_ok {b : Bn} {i : Nat} (hd : b.down = false) (hi : i < b.ds.length) : may b (i : Int) = 0 := by
  unfold may
  rw [show is b (i : Int) = true from decide_eq_true ⟨by omega, by omega⟩, hd]
  rfl
theorem may_down {b : Bn} {i : Nat} (hd : b.down = true) (hi : i < b.ds.length) : may b (i : Int) = 6 := by
  unfold may
  rw [show is b (i : Int) = true from decide_eq_true ⟨by omega, by omega⟩, hd]
  rfl
theorem put_ok {d : D.Dk} (hf : d.f = false) {a : Nat} (ha : a < 52) {x : List Nat} (hx : x.length = 32) : putI d (a : Int) x = 0 := by
  have hm : D.may d (a : Int) = 0 := by unfold D.may; rw [hf, if_neg (by decide), if_neg (by omega)]
  unfold putI
  rw [hm, if_neg (by decide), if_neg (by simpa using hx)]
theorem write_ok {b : Bn} {i a : Nat} {d : D.Dk} {x : List Nat} (hd : b.down = false) (hi : b.ds[i]? = some d) (hf : d.f = false) (ha : a < 52) (hx : x.length = 32) (hl : b.left ≠ 0) :
    writeE b (i : Int) (a : Int) x = 0 ∧ write b (i : Int) (a : Int) x = { counted b with ds := b.ds.set i (D.write d a x) } := by
  have hlt : i < b.ds.length := (List.getElem?_eq_some_iff.1 hi).1
  have hk := dk_nat hi
  have hm := may_ok hd hlt
  have hp := put_ok hf ha hx
  unfold writeE write
  rw [hk, hm, hp]
  simp only [ne_eq, not_true_eq_false, if_false, if_neg hl]
  exact ⟨trivial, rfl⟩
theorem write_spent {b : Bn} {i a : Nat} {d : D.Dk} {x : List Nat} (hd : b.down = false) (hi : b.ds[i]? = some d) (hf : d.f = false) (ha : a < 52) (hx : x.length = 32) (hl : b.left = 0) :
    writeE b (i : Int) (a : Int) x = 6 ∧ write b (i : Int) (a : Int) x = { b with down := true } := by
  have hlt : i < b.ds.length := (List.getElem?_eq_some_iff.1 hi).1
  have hk := dk_nat hi
  have hm := may_ok hd hlt
  have hp := put_ok hf ha hx
  unfold writeE write
  rw [hk, hm, hp]
  simp only [ne_eq, not_true_eq_false, if_false, if_pos hl]
  exact ⟨trivial, trivial⟩
theorem write_down {b : Bn} {i : Nat} {a : Int} {x : List Nat} (hd : b.down = true) (hi : i < b.ds.length) :
    writeE b (i : Int) a x = 6 ∧ write b (i : Int) a x = b := by
  unfold writeE write
  rw [may_down hd hi, if_pos (by decide), if_pos (by decide)]
  exact ⟨rfl, rfl⟩
theorem read_ok {b : Bn} {i a : Nat} {d : D.Dk} (hd : b.down = false) (hi : b.ds[i]? = some d) (hf : d.f = false) (ha : a < 52) :
    readE b (i : Int) (a : Int) = 0 ∧ readL b (i : Int) (a : Int) = D.look d a := by
  have hlt : i < b.ds.length := (List.getElem?_eq_some_iff.1 hi).1
  have hk := dk_nat hi
  have hm : D.may d (a : Int) = 0 := by unfold D.may; rw [hf, if_neg (by decide), if_neg (by omega)]
  unfold readE readL
  rw [if_neg (by rw [may_ok hd hlt]; decide), if_neg (by rw [may_ok hd hlt]; decide), hk, hm]
  unfold D.readL
  rw [hm, if_pos rfl]
  exact ⟨rfl, rfl⟩
theorem fresh_get {n i : Nat} (hi : i < n) : (fresh n).ds[i]? = some D.blank := by unfold fresh; simp [hi]
end B
attribute [local irreducible] Go.Calls Byt Own Parts Bools
end Go.Proofs.Ytenjpldinnbcbaa
