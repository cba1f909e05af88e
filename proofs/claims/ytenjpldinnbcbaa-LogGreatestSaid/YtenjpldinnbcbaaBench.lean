/- A bench: what it has in plain terms, and how that lies in memory. -/
import Derived.Test.YtenjpldinnbcbaaDiskA
namespace Go.Proofs.Ytenjpldinnbcbaa
open Go.RowKit
set_option linter.unusedVariables false
set_option linter.unusedSimpArgs false
set_option maxRecDepth 100000
set_option maxHeartbeats 1000000
namespace B
/-- writes done, how many more are done, no power, the disks -/
structure Bn where
  writes : Int
  left : Int
  down : Bool
  ds : List D.Dk
def is (b : Bn) (d : Int) : Bool := decide (0 ≤ d ∧ d < b.ds.length)
def may (b : Bn) (d : Int) : Int := if is b d then (if b.down then 6 else 0) else 1
def dk (b : Bn) (d : Int) : D.Dk := b.ds.getD d.toNat D.blank
def setD (b : Bn) (d : Int) (x : D.Dk) : Bn := { b with ds := b.ds.set d.toNat x }
def counted (b : Bn) : Bn := { b with writes := b.writes + 1, left := if 0 < b.left then b.left - 1 else b.left }
def writeE (b : Bn) (d at' : Int) (x : List Nat) : Int := if may b d ≠ 0 then may b d else if putI (dk b d) at' x ≠ 0 then putI (dk b d) at' x else if b.left = 0 then 6 else 0
def write (b : Bn) (d at' : Int) (x : List Nat) : Bn :=
  if may b d ≠ 0 then b else if putI (dk b d) at' x ≠ 0 then b else if b.left = 0 then { b with down := true } else setD (counted b) d (D.write (dk b d) at'.toNat x)
def crashAll : List D.Dk → List Bool → List D.Dk
  | [], _ => []
  | d :: ds, ks => D.crash d (ks.take (min d.p.length ks.length)) :: crashAll ds (ks.drop (min d.p.length ks.length))
def crash (b : Bn) (ks : List Bool) : Bn := { b with left := -1, down := false, ds := crashAll b.ds ks }
def pending (b : Bn) : Nat := (b.ds.map (fun d => d.p.length)).sum
def fresh (n : Nat) : Bn := ⟨0, -1, false, List.replicate n D.blank⟩
end B
def bcells (b : B.Bn) (lv : Value) : List Value := [.int .i64 b.writes, .int .i64 b.left, .bool b.down, lv]
def hptr (h : Nat × Value) : Value := .pointer (some ⟨h.1, 0, none⟩)
/-- a bench in memory: its object g, the row of its disks lv, the disks' objects and pending slices hs -/
structure IsBench (w : World) (base g : Nat) (lv : Value) (hs : List (Nat × Value)) (b : B.Bn) : Prop where
  ge : base ≤ g
  lt : g < w.heap.size
  cells : w.rangeAt g 0 (bcells b lv)
  there : w.there g 0 4
  row : w.ownsRow base 100 1 lv hs.length (hs.map hptr)
  len : hs.length = b.ds.length
  disk : ∀ (i : Nat) (h : Nat × Value) (d : D.Dk), hs[i]? = some h → b.ds[i]? = some d → IsDisk w base h.1 h.2 d
  apart : ∀ (i j : Nat) (h k : Nat × Value), hs[i]? = some h → hs[j]? = some k → i ≠ j → ∀ x, ofD h.1 h.2 x → ¬ ofD k.1 k.2 x
  own : ∀ (i : Nat) (h : Nat × Value), hs[i]? = some h → ∀ x, ofD h.1 h.2 x → x ≠ g ∧ lv.ownBlock ≠ some x
  ap : lv.ownBlock ≠ some g
/-- its blocks -/
def ofB (g : Nat) (lv : Value) (hs : List (Nat × Value)) (x : Nat) : Prop := x = g ∨ lv.ownBlock = some x ∨ ∃ (i : Nat) (h : Nat × Value), hs[i]? = some h ∧ ofD h.1 h.2 x
theorem IsBench.both {w : World} {base g : Nat} {lv : Value} {hs : List (Nat × Value)} {b : B.Bn} (h : IsBench w base g lv hs b) {i : Nat} {k : Nat × Value} (hk : hs[i]? = some k) : ∃ d, b.ds[i]? = some d ∧ IsDisk w base k.1 k.2 d := by
  have hi : i < b.ds.length := by rw [← h.len]; exact (List.getElem?_eq_some_iff.1 hk).1
  exact ⟨_, List.getElem?_eq_getElem hi, h.disk i k _ hk (List.getElem?_eq_getElem hi)⟩
theorem IsBench.fr {S : Nat → Prop} {w w' : World} {base g : Nat} {lv : Value} {hs : List (Nat × Value)} {b : B.Bn} (h : IsBench w base g lv hs b) (k : Fr S w w') (hS : ∀ x, ofB g lv hs x → ¬ S x) : IsBench w' base g lv hs b :=
  ⟨h.ge, Nat.lt_of_lt_of_le h.lt k.size, rangeAt_fr h.cells k (hS g (.inl rfl)), there_fr h.there k (hS g (.inl rfl)), row_fr h.row k (fun x hx => hS x (.inr (.inl hx))), h.len,
    fun i y d hy hd => (h.disk i y d hy hd).fr k (fun x hx => hS x (.inr (.inr ⟨i, y, hy, hx⟩))), h.apart, h.own, h.ap⟩
theorem IsBench.up {w w' : World} {base g : Nat} {lv : Value} {hs : List (Nat × Value)} {b : B.Bn} (h : IsBench w base g lv hs b) (k : Below w.heap.size w w') : IsBench w' base g lv hs b := h.fr (S := fun _ => False) (Fr.of_below k) (fun _ _ => id)
theorem IsBench.lts {w : World} {base g : Nat} {lv : Value} {hs : List (Nat × Value)} {b : B.Bn} (h : IsBench w base g lv hs b) : ∀ x, ofB g lv hs x → x < w.heap.size := fun x hx => by
  rcases hx with rfl | hx | ⟨i, y, hy, hx⟩
  · exact h.lt
  · exact (h.row.lt x hx).2
  · obtain ⟨d, _, hd⟩ := h.both hy
    exact hd.lts x hx
theorem IsBench.ges {w : World} {base g : Nat} {lv : Value} {hs : List (Nat × Value)} {b : B.Bn} (h : IsBench w base g lv hs b) : ∀ x, ofB g lv hs x → base ≤ x := fun x hx => by
  rcases hx with rfl | hx | ⟨i, y, hy, hx⟩
  · exact h.ge
  · exact (h.row.lt x hx).1
  · obtain ⟨d, _, hd⟩ := h.both hy
    exact hd.ges x hx
/-- the disk at a place -/
theorem IsBench.get {w : World} {base g n cap : Nat} {ao : Option Addr} {hs : List (Nat × Value)} {b : B.Bn} (h : IsBench w base g (.slice ao n cap) hs b) {i : Nat} (hi : i < b.ds.length) :
    ∃ bl k d, ao = some ⟨bl, 0, none⟩ ∧ w.cell? ⟨bl, i, none⟩ = some (.pointer (some ⟨k.1, 0, none⟩)) ∧ hs[i]? = some k ∧ b.ds[i]? = some d ∧ IsDisk w base k.1 k.2 d := by
  have hi' : i < hs.length := by rw [h.len]; exact hi
  rcases h.row.2 with ⟨e, hn⟩ | ⟨bl, cap', cur, e, h1, h2, h3, h4, h5, h6⟩
  · omega
  · cases e
    refine ⟨bl, hs[i], b.ds[i], rfl, ?_, List.getElem?_eq_getElem hi', List.getElem?_eq_getElem hi, h.disk i _ _ (List.getElem?_eq_getElem hi') (List.getElem?_eq_getElem hi)⟩
    have hc := h.row.cellAt i (by simpa using hi')
    rw [hc]
    simp [hi', hptr]
theorem IsBench.shape {w : World} {base g : Nat} {lv : Value} {hs : List (Nat × Value)} {b : B.Bn} (h : IsBench w base g lv hs b) : ∃ ao cap, lv = .slice ao b.ds.length cap ∧ b.ds.length ≤ cap ∧ cap ≤ 9223372036854775807 := by
  rw [← h.len]
  rcases h.row.2 with ⟨e, hn⟩ | ⟨bl, cap, cur, e, _, _, h1, h2, _⟩
  · exact ⟨none, 0, by rw [e, hn], by omega, by decide⟩
  · exact ⟨_, cap, e, h1, h2⟩
theorem IsBench.cell {w : World} {base g : Nat} {lv : Value} {hs : List (Nat × Value)} {b : B.Bn} (h : IsBench w base g lv hs b) : w.cell? ⟨g, 0, none⟩ = some (.int .i64 b.writes) ∧ w.cell? ⟨g, 1, none⟩ = some (.int .i64 b.left) ∧ w.cell? ⟨g, 2, none⟩ = some (.bool b.down) ∧ w.cell? ⟨g, 3, none⟩ = some lv := by
  have hc := h.cells
  exact ⟨by simpa using hc 0 _ rfl, by simpa using hc 1 _ rfl, by simpa using hc 2 _ rfl, by simpa using hc 3 _ rfl⟩
/-- what is done to one disk -/
theorem IsBench.setDisk {w w' : World} {base g : Nat} {lv pv' : Value} {hs : List (Nat × Value)} {b : B.Bn} {i : Nat} {k : Nat × Value} {d' : D.Dk} (h : IsBench w base g lv hs b) (hk : hs[i]? = some k) (hF : Fr (ofD k.1 k.2) w w') (hD : IsDisk w' base k.1 pv' d')
    (hp : ∀ x, pv'.ownBlock = some x → k.2.ownBlock = some x ∨ w.heap.size ≤ x) :
    IsBench w' base g lv (hs.set i (k.1, pv')) { b with ds := b.ds.set i d' } ∧ Fr (ofB g lv hs) w w' ∧ ∀ x, ofB g lv (hs.set i (k.1, pv')) x → ofB g lv hs x ∨ w.heap.size ≤ x := by
  have hi : i < hs.length := (List.getElem?_eq_some_iff.1 hk).1
  have hold : ∀ x, ofD k.1 pv' x → ofD k.1 k.2 x ∨ w.heap.size ≤ x := fun x hx => by
    rcases hx with rfl | hx
    · exact .inl (.inl rfl)
    · rcases hp x hx with h1 | h1
      · exact .inl (.inr h1)
      · exact .inr h1
  have hget : ∀ (j : Nat) (y : Nat × Value), (hs.set i (k.1, pv'))[j]? = some y → (j = i ∧ y = (k.1, pv')) ∨ (j ≠ i ∧ hs[j]? = some y) := fun j y hy => by
    by_cases e : i = j
    · subst e
      rw [List.getElem?_set_self hi] at hy
      exact .inl ⟨rfl, (Option.some.inj hy).symm⟩
    · rw [List.getElem?_set_ne e] at hy
      exact .inr ⟨fun h => e h.symm, hy⟩
  refine ⟨⟨h.ge, Nat.lt_of_lt_of_le h.lt hF.size, rangeAt_fr h.cells hF (fun hx => (h.own i k hk g hx).1 rfl), there_fr h.there hF (fun hx => (h.own i k hk g hx).1 rfl), ?_, by simp [h.len], ?_, ?_, ?_, h.ap⟩, hF.mono (fun x hx => .inr (.inr ⟨i, k, hk, hx⟩)), ?_⟩
  · have e : (hs.set i (k.1, pv')).map hptr = hs.map hptr := by
      rw [List.map_set]
      apply List.ext_getElem?
      intro j
      by_cases e : i = j
      · subst e
        rw [List.getElem?_set_self (by simpa using hi), List.getElem?_map, hk]
        rfl
      · rw [List.getElem?_set_ne e]
    rw [e, List.length_set]
    exact row_fr h.row hF (fun x hx hof => (h.own i k hk x hof).2 hx)
  · intro j y d hy hd
    rcases hget j y hy with ⟨rfl, rfl⟩ | ⟨hj, hy⟩
    · rw [List.getElem?_set_self (by rw [← h.len]; exact hi)] at hd
      cases hd
      exact hD
    · rw [List.getElem?_set_ne (fun e => hj e.symm)] at hd
      exact (h.disk j y d hy hd).fr hF (h.apart j i y k hy hk hj)
  · intro j l y z hy hz hjl x hx
    rcases hget j y hy with ⟨rfl, rfl⟩ | ⟨hj, hy⟩
    · rcases hget l z hz with ⟨rfl, rfl⟩ | ⟨hl, hz⟩
      · exact absurd rfl hjl
      · intro hx2
        rcases hold x hx with h1 | h1
        · exact h.apart j l k z hk hz hjl x h1 hx2
        · obtain ⟨d, _, hd⟩ := h.both hz
          have := hd.lts x hx2
          omega
    · rcases hget l z hz with ⟨el, ez⟩ | ⟨hl, hz2⟩
      · intro hx2
        rw [ez] at hx2
        rcases hold x hx2 with h1 | h1
        · exact h.apart j i y k hy hk hj x hx h1
        · obtain ⟨d, _, hd⟩ := h.both hy
          have := hd.lts x hx
          omega
      · exact h.apart j l y z hy hz2 hjl x hx
  · intro j y hy x hx
    rcases hget j y hy with ⟨rfl, rfl⟩ | ⟨hj, hy⟩
    · rcases hold x hx with h1 | h1
      · exact h.own j k hk x h1
      · exact ⟨fun e => by have := h.lt; omega, fun e => by have := (h.row.lt x e).2; omega⟩
    · exact h.own j y hy x hx
  · intro x hx
    rcases hx with hx | hx | ⟨j, y, hy, hx⟩
    · exact .inl (.inl hx)
    · exact .inl (.inr (.inl hx))
    · rcases hget j y hy with ⟨rfl, rfl⟩ | ⟨hj, hy⟩
      · rcases hold x hx with h1 | h1
        · exact .inl (.inr (.inr ⟨j, k, hk, h1⟩))
        · exact .inr h1
      · exact .inl (.inr (.inr ⟨j, y, hy, hx⟩))
/-- what is done to the counter -/
theorem IsBench.setCells {w : World} {base g : Nat} {lv : Value} {hs : List (Nat × Value)} {b b' : B.Bn} (h : IsBench w base g lv hs b) {w' : World} (hF : Fr (fun x => x = g) w w') (hc : w'.rangeAt g 0 (bcells b' lv)) (ht : w'.there g 0 4) (hd : b'.ds = b.ds) : IsBench w' base g lv hs b' :=
  ⟨h.ge, Nat.lt_of_lt_of_le h.lt hF.size, hc, ht, row_fr h.row hF (fun x hx e => h.ap (by rw [hx, e])), by rw [hd]; exact h.len, fun i y d hy hy2 => (h.disk i y d hy (by rw [← hd]; exact hy2)).fr hF (fun x hx e => (h.own i y hy x hx).1 e), h.apart, h.own, h.ap⟩
end Go.Proofs.Ytenjpldinnbcbaa
