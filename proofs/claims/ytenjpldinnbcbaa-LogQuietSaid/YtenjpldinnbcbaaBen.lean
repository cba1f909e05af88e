/- Merged: Bench, BenchY, BenchL, BenchN. -/
import Derived.Test.YtenjpldinnbcbaaDsk
/- A bench: what it has in plain terms, and how that lies in memory. -/

namespace Go.Proofs.Ytenjpldinnbcbaa
open Go.RowKit
set_option linter.unusedVariables false
set_option linter.unusedSimpArgs false
set_option maxRecDepth 100000
set_option maxHeartbeats 1000000
namespace B
/-- writes done, how many more are done, no power, the disks -/
structure Bn where
  writes : Int
  left : Int
  down : Bool
  ds : List D.Dk
def is (b : Bn) (d : Int) : Bool := decide (0 ≤ d ∧ d < b.ds.length)
def may (b : Bn) (d : Int) : Int := if is b d then (if b.down then 6 else 0) else 1
def dk (b : Bn) (d : Int) : D.Dk := b.ds.getD d.toNat D.blank
def setD (b : Bn) (d : Int) (x : D.Dk) : Bn := { b with ds := b.ds.set d.toNat x }
def counted (b : Bn) : Bn := { b with writes := b.writes + 1, left := if 0 < b.left then b.left - 1 else b.left }
def writeE (b : Bn) (d at' : Int) (x : List Nat) : Int := if may b d ≠ 0 then may b d else if putI (dk b d) at' x ≠ 0 then putI (dk b d) at' x else if b.left = 0 then 6 else 0
def write (b : Bn) (d at' : Int) (x : List Nat) : Bn :=
  if may b d ≠ 0 then b else if putI (dk b d) at' x ≠ 0 then b else if b.left = 0 then { b with down := true } else setD (counted b) d (D.write (dk b d) at'.toNat x)
def crashAll : List D.Dk → List Bool → List D.Dk
  | [], _ => []
  | d :: ds, ks => D.crash d (ks.take (min d.p.length ks.length)) :: crashAll ds (ks.drop (min d.p.length ks.length))
def crash (b : Bn) (ks : List Bool) : Bn := { b with left := -1, down := false, ds := crashAll b.ds ks }
def pending (b : Bn) : Nat := (b.ds.map (fun d => d.p.length)).sum
def fresh (n : Nat) : Bn := ⟨0, -1, false, List.replicate n D.blank⟩
end B
def bcells (b : B.Bn) (lv : Value) : List Value := [.int .i64 b.writes, .int .i64 b.left, .bool b.down, lv]
def hptr (h : Nat × Value) : Value := .pointer (some ⟨h.1, 0, none⟩)
/-- a bench in memory: its object g, the row of its disks lv, the disks' objects and pending slices hs -/
structure IsBench (w : World) (base g : Nat) (lv : Value) (hs : List (Nat × Value)) (b : B.Bn) : Prop where
  ge : base ≤ g
  lt : g < w.heap.size
  cells : w.rangeAt g 0 (bcells b lv)
  there : w.there g 0 4
  row : w.ownsRow base 100 1 lv hs.length (hs.map hptr)
  len : hs.length = b.ds.length
  disk : ∀ (i : Nat) (h : Nat × Value) (d : D.Dk), hs[i]? = some h → b.ds[i]? = some d → IsDisk w base h.1 h.2 d
  apart : ∀ (i j : Nat) (h k : Nat × Value), hs[i]? = some h → hs[j]? = some k → i ≠ j → ∀ x, ofD h.1 h.2 x → ¬ ofD k.1 k.2 x
  own : ∀ (i : Nat) (h : Nat × Value), hs[i]? = some h → ∀ x, ofD h.1 h.2 x → x ≠ g ∧ lv.ownBlock ≠ some x
  ap : lv.ownBlock ≠ some g
/-- its blocks -/
def ofB (g : Nat) (lv : Value) (hs : List (Nat × Value)) (x : Nat) : Prop := x = g ∨ lv.ownBlock = some x ∨ ∃ (i : Nat) (h : Nat × Value), hs[i]? = some h ∧ ofD h.1 h.2 x
theorem IsBench.both {w : World} {base g : Nat} {lv : Value} {hs : List (Nat × Value)} {b : B.Bn} (h : IsBench w base g lv hs b) {i : Nat} {k : Nat × Value} (hk : hs[i]? = some k) : ∃ d, b.ds[i]? = some d ∧ IsDisk w base k.1 k.2 d := by
  have hi : i < b.ds.length := by rw [← h.len]; exact (List.getElem?_eq_some_iff.1 hk).1
  exact ⟨_, List.getElem?_eq_getElem hi, h.disk i k _ hk (List.getElem?_eq_getElem hi)⟩
theorem IsBench.fr {S : Nat → Prop} {w w' : World} {base g : Nat} {lv : Value} {hs : List (Nat × Value)} {b : B.Bn} (h : IsBench w base g lv hs b) (k : Fr S w w') (hS : ∀ x, ofB g lv hs x → ¬ S x) : IsBench w' base g lv hs b :=
  ⟨h.ge, Nat.lt_of_lt_of_le h.lt k.size, rangeAt_fr h.cells k (hS g (.inl rfl)), there_fr h.there k (hS g (.inl rfl)), row_fr h.row k (fun x hx => hS x (.inr (.inl hx))), h.len,
    fun i y d hy hd => (h.disk i y d hy hd).fr k (fun x hx => hS x (.inr (.inr ⟨i, y, hy, hx⟩))), h.apart, h.own, h.ap⟩
theorem IsBench.up {w w' : World} {base g : Nat} {lv : Value} {hs : List (Nat × Value)} {b : B.Bn} (h : IsBench w base g lv hs b) (k : Below w.heap.size w w') : IsBench w' base g lv hs b := h.fr (S := fun _ => False) (Fr.of_below k) (fun _ _ => id)
theorem IsBench.lts {w : World} {base g : Nat} {lv : Value} {hs : List (Nat × Value)} {b : B.Bn} (h : IsBench w base g lv hs b) : ∀ x, ofB g lv hs x → x < w.heap.size := fun x hx => by
  rcases hx with rfl | hx | ⟨i, y, hy, hx⟩
  · exact h.lt
  · exact (h.row.lt x hx).2
  · obtain ⟨d, _, hd⟩ := h.both hy
    exact hd.lts x hx
theorem IsBench.ges {w : World} {base g : Nat} {lv : Value} {hs : List (Nat × Value)} {b : B.Bn} (h : IsBench w base g lv hs b) : ∀ x, ofB g lv hs x → base ≤ x := fun x hx => by
  rcases hx with rfl | hx | ⟨i, y, hy, hx⟩
  · exact h.ge
  · exact (h.row.lt x hx).1
  · obtain ⟨d, _, hd⟩ := h.both hy
    exact hd.ges x hx
/-- the disk at a place -/
theorem IsBench.get {w : World} {base g n cap : Nat} {ao : Option Addr} {hs : List (Nat × Value)} {b : B.Bn} (h : IsBench w base g (.slice ao n cap) hs b) {i : Nat} (hi : i < b.ds.length) :
    ∃ bl k d, ao = some ⟨bl, 0, none⟩ ∧ w.cell? ⟨bl, i, none⟩ = some (.pointer (some ⟨k.1, 0, none⟩)) ∧ hs[i]? = some k ∧ b.ds[i]? = some d ∧ IsDisk w base k.1 k.2 d := by
  have hi' : i < hs.length := by rw [h.len]; exact hi
  rcases h.row.2 with ⟨e, hn⟩ | ⟨bl, cap', cur, e, h1, h2, h3, h4, h5, h6⟩
  · omega
  · cases e
    refine ⟨bl, hs[i], b.ds[i], rfl, ?_, List.getElem?_eq_getElem hi', List.getElem?_eq_getElem hi, h.disk i _ _ (List.getElem?_eq_getElem hi') (List.getElem?_eq_getElem hi)⟩
    have hc := h.row.cellAt i (by simpa using hi')
    rw [hc]
    simp [hi', hptr]
theorem IsBench.shape {w : World} {base g : Nat} {lv : Value} {hs : List (Nat × Value)} {b : B.Bn} (h : IsBench w base g lv hs b) : ∃ ao cap, lv = .slice ao b.ds.length cap ∧ b.ds.length ≤ cap ∧ cap ≤ 9223372036854775807 := by
  rw [← h.len]
  rcases h.row.2 with ⟨e, hn⟩ | ⟨bl, cap, cur, e, _, _, h1, h2, _⟩
  · exact ⟨none, 0, by rw [e, hn], by omega, by decide⟩
  · exact ⟨_, cap, e, h1, h2⟩
theorem IsBench.cell {w : World} {base g : Nat} {lv : Value} {hs : List (Nat × Value)} {b : B.Bn} (h : IsBench w base g lv hs b) : w.cell? ⟨g, 0, none⟩ = some (.int .i64 b.writes) ∧ w.cell? ⟨g, 1, none⟩ = some (.int .i64 b.left) ∧ w.cell? ⟨g, 2, none⟩ = some (.bool b.down) ∧ w.cell? ⟨g, 3, none⟩ = some lv := by
  have hc := h.cells
  exact ⟨by simpa using hc 0 _ rfl, by simpa using hc 1 _ rfl, by simpa using hc 2 _ rfl, by simpa using hc 3 _ rfl⟩
/-- what is done to one disk -/
theorem IsBench.setDisk {w w' : World} {base g : Nat} {lv pv' : Value} {hs : List (Nat × Value)} {b : B.Bn} {i : Nat} {k : Nat × Value} {d' : D.Dk} (h : IsBench w base g lv hs b) (hk : hs[i]? = some k) (hF : Fr (ofD k.1 k.2) w w') (hD : IsDisk w' base k.1 pv' d')
    (hp : ∀ x, pv'.ownBlock = some x → k.2.ownBlock = some x ∨ w.heap.size ≤ x) :
    IsBench w' base g lv (hs.set i (k.1, pv')) { b with ds := b.ds.set i d' } ∧ Fr (ofB g lv hs) w w' ∧ ∀ x, ofB g lv (hs.set i (k.1, pv')) x → ofB g lv hs x ∨ w.heap.size ≤ x := by
  have hi : i < hs.length := (List.getElem?_eq_some_iff.1 hk).1
  have hold : ∀ x, ofD k.1 pv' x → ofD k.1 k.2 x ∨ w.heap.size ≤ x := fun x hx => by
    rcases hx with rfl | hx
    · exact .inl (.inl rfl)
    · rcases hp x hx with h1 | h1
      · exact .inl (.inr h1)
      · exact .inr h1
  have hget : ∀ (j : Nat) (y : Nat × Value), (hs.set i (k.1, pv'))[j]? = some y → (j = i ∧ y = (k.1, pv')) ∨ (j ≠ i ∧ hs[j]? = some y) := fun j y hy => by
    by_cases e : i = j
    · subst e
      rw [List.getElem?_set_self hi] at hy
      exact .inl ⟨rfl, (Option.some.inj hy).symm⟩
    · rw [List.getElem?_set_ne e] at hy
      exact .inr ⟨fun h => e h.symm, hy⟩
  refine ⟨⟨h.ge, Nat.lt_of_lt_of_le h.lt hF.size, rangeAt_fr h.cells hF (fun hx => (h.own i k hk g hx).1 rfl), there_fr h.there hF (fun hx => (h.own i k hk g hx).1 rfl), ?_, by simp [h.len], ?_, ?_, ?_, h.ap⟩, hF.mono (fun x hx => .inr (.inr ⟨i, k, hk, hx⟩)), ?_⟩
  · have e : (hs.set i (k.1, pv')).map hptr = hs.map hptr := by
      rw [List.map_set]
      apply List.ext_getElem?
      intro j
      by_cases e : i = j
      · subst e
        rw [List.getElem?_set_self (by simpa using hi), List.getElem?_map, hk]
        rfl
      · rw [List.getElem?_set_ne e]
    rw [e, List.length_set]
    exact row_fr h.row hF (fun x hx hof => (h.own i k hk x hof).2 hx)
  · intro j y d hy hd
    rcases hget j y hy with ⟨rfl, rfl⟩ | ⟨hj, hy⟩
    · rw [List.getElem?_set_self (by rw [← h.len]; exact hi)] at hd
      cases hd
      exact hD
    · rw [List.getElem?_set_ne (fun e => hj e.symm)] at hd
      exact (h.disk j y d hy hd).fr hF (h.apart j i y k hy hk hj)
  · intro j l y z hy hz hjl x hx
    rcases hget j y hy with ⟨rfl, rfl⟩ | ⟨hj, hy⟩
    · rcases hget l z hz with ⟨rfl, rfl⟩ | ⟨hl, hz⟩
      · exact absurd rfl hjl
      · intro hx2
        rcases hold x hx with h1 | h1
        · exact h.apart j l k z hk hz hjl x h1 hx2
        · obtain ⟨d, _, hd⟩ := h.both hz
          have := hd.lts x hx2
          omega
    · rcases hget l z hz with ⟨el, ez⟩ | ⟨hl, hz2⟩
      · intro hx2
        rw [ez] at hx2
        rcases hold x hx2 with h1 | h1
        · exact h.apart j i y k hy hk hj x hx h1
        · obtain ⟨d, _, hd⟩ := h.both hy
          have := hd.lts x hx
          omega
      · exact h.apart j l y z hy hz2 hjl x hx
  · intro j y hy x hx
    rcases hget j y hy with ⟨rfl, rfl⟩ | ⟨hj, hy⟩
    · rcases hold x hx with h1 | h1
      · exact h.own j k hk x h1
      · exact ⟨fun e => by have := h.lt; omega, fun e => by have := (h.row.lt x e).2; omega⟩
    · exact h.own j y hy x hx
  · intro x hx
    rcases hx with hx | hx | ⟨j, y, hy, hx⟩
    · exact .inl (.inl hx)
    · exact .inl (.inr (.inl hx))
    · rcases hget j y hy with ⟨rfl, rfl⟩ | ⟨hj, hy⟩
      · rcases hold x hx with h1 | h1
        · exact .inl (.inr (.inr ⟨j, k, hk, h1⟩))
        · exact .inr h1
      · exact .inl (.inr (.inr ⟨j, y, hy, hx⟩))
/-- what is done to the counter -/
theorem IsBench.setCells {w : World} {base g : Nat} {lv : Value} {hs : List (Nat × Value)} {b b' : B.Bn} (h : IsBench w base g lv hs b) {w' : World} (hF : Fr (fun x => x = g) w w') (hc : w'.rangeAt g 0 (bcells b' lv)) (ht : w'.there g 0 4) (hd : b'.ds = b.ds) : IsBench w' base g lv hs b' :=
  ⟨h.ge, Nat.lt_of_lt_of_le h.lt hF.size, hc, ht, row_fr h.row hF (fun x hx e => h.ap (by rw [hx, e])), by rw [hd]; exact h.len, fun i y d hy hy2 => (h.disk i y d hy (by rw [← hd]; exact hy2)).fr hF (fun x hx e => (h.own i y hy x hx).1 e), h.apart, h.own, h.ap⟩
end Go.Proofs.Ytenjpldinnbcbaa
/- Merged: BenchW, BenchX, BenchY. -/

/- The walks of package bench: what asks. -/

namespace Go.Proofs.Ytenjpldinnbcbaa
open Go.RowKit
set_option linter.unusedVariables false
set_option linter.unusedSimpArgs false
set_option maxRecDepth 100000
set_option maxHeartbeats 1000000

theorem bis_any (w : World) (base g : Nat) (lv : Value) (hs : List (Nat × Value)) (b : B.Bn) (d : Int) (h : IsBench w base g lv hs b) :
    Calls Try.prog 60 #[.pointer (some ⟨g, 0, none⟩), .int .i64 d] w fun e w' => e = .returned (.bool (B.is b d)) ∧ w = w' := by
  have hc := h.cell.2.2.2
  obtain ⟨ao, cap, rfl, _, _⟩ := h.shape
  clear h
  by_cases h0 : 0 ≤ d
  · by_cases h1 : d < b.ds.length
    · have HE : Hid (B.is b d = true) := decide_eq_true ⟨h0, h1⟩
      go_enter Try.func60, Try.ntmps60
      go_wp2
      go_ret
      exact ⟨by rw [HE.out]; rfl, rfl⟩
    · have HE : Hid (B.is b d = false) := decide_eq_false (fun h => h1 h.2)
      go_enter Try.func60, Try.ntmps60
      go_wp2
      go_ret
      exact ⟨by rw [HE.out]; rfl, rfl⟩
  · have HE : Hid (B.is b d = false) := decide_eq_false (fun h => h0 h.1)
    go_enter Try.func60, Try.ntmps60
    go_wp2
    go_ret
    exact ⟨by rw [HE.out]; rfl, rfl⟩
theorem bmay_any (w : World) (base g : Nat) (lv : Value) (hs : List (Nat × Value)) (b : B.Bn) (d : Int) (h : IsBench w base g lv hs b) :
    Calls Try.prog 64 #[.pointer (some ⟨g, 0, none⟩), .int .i64 d] w fun e w' => e = .returned (.int .i64 (B.may b d)) ∧ w = w' := by
  have HC := Lib.hid (bis_any w base g lv hs b d h)
  have hd := h.cell.2.2.1
  clear h
  cases hi : B.is b d with
  | true =>
    cases hdn : b.down with
    | true =>
      rw [hdn] at hd
      rw [hi] at HC
      have HE : Hid (B.may b d = 6) := by show _ = _; unfold B.may; rw [hi, hdn]; rfl
      clear hi hdn
      go_enter Try.func64, Try.ntmps64
      go_wp2_with fail
      refine Calls.mono HC.out ?_
      rintro e w1 ⟨rfl, rfl⟩
      go_wp2
      go_ret
      exact ⟨by rw [HE.out]; rfl, rfl⟩
    | false =>
      rw [hdn] at hd
      rw [hi] at HC
      have HE : Hid (B.may b d = 0) := by show _ = _; unfold B.may; rw [hi, hdn]; rfl
      clear hi hdn
      go_enter Try.func64, Try.ntmps64
      go_wp2_with fail
      refine Calls.mono HC.out ?_
      rintro e w1 ⟨rfl, rfl⟩
      go_wp2
      go_ret
      exact ⟨by rw [HE.out]; rfl, rfl⟩
  | false =>
    rw [hi] at HC
    have HE : Hid (B.may b d = 1) := by show _ = _; unfold B.may; rw [hi]; rfl
    clear hi
    go_enter Try.func64, Try.ntmps64
    go_wp2_with fail
    refine Calls.mono HC.out ?_
    rintro e w1 ⟨rfl, rfl⟩
    go_wp2
    go_ret
    exact ⟨by rw [HE.out]; rfl, rfl⟩
theorem bwrites_any (w : World) (base g : Nat) (lv : Value) (hs : List (Nat × Value)) (b : B.Bn) (h : IsBench w base g lv hs b) :
    Calls Try.prog 23 #[.pointer (some ⟨g, 0, none⟩)] w fun e w' => e = .returned (.int .i64 b.writes) ∧ w = w' := by
  have hc := h.cell.1
  clear h
  go_enter Try.func23, Try.ntmps23
  go_wp2
  go_ret
  exact ⟨rfl, rfl⟩
theorem bdown_any (w : World) (base g : Nat) (lv : Value) (hs : List (Nat × Value)) (b : B.Bn) (h : IsBench w base g lv hs b) :
    Calls Try.prog 79 #[.pointer (some ⟨g, 0, none⟩)] w fun e w' => e = .returned (.bool b.down) ∧ w = w' := by
  have hc := h.cell.2.2.1
  clear h
  go_enter Try.func79, Try.ntmps79
  go_wp2
  go_ret
  exact ⟨rfl, rfl⟩
theorem blen_any (w : World) (base g : Nat) (lv : Value) (hs : List (Nat × Value)) (b : B.Bn) (h : IsBench w base g lv hs b) :
    Calls Try.prog 55 #[.pointer (some ⟨g, 0, none⟩)] w fun e w' => e = .returned (.int .i64 (b.ds.length : Nat)) ∧ w = w' := by
  have hc := h.cell.2.2.2
  obtain ⟨ao, cap, rfl, _, _⟩ := h.shape
  clear h
  go_enter Try.func55, Try.ntmps55
  go_wp2
  go_ret
  exact ⟨rfl, rfl⟩
namespace B
theorem may_zero {b : Bn} {d : Int} (h : may b d = 0) : b.down = false ∧ 0 ≤ d ∧ d < b.ds.length := by
  unfold may at h
  by_cases hi : is b d = true
  · rw [if_pos hi] at h
    have := of_decide_eq_true hi
    by_cases hd : b.down = true
    · rw [if_pos hd] at h; omega
    · exact ⟨by simpa using hd, this.1, this.2⟩
  · rw [if_neg hi] at h; omega
theorem dk_nat {b : Bn} {i : Nat} {d : D.Dk} (h : b.ds[i]? = some d) : dk b (i : Int) = d := by
  unfold dk
  simp [List.getD, h]
def readE (b : Bn) (d at' : Int) : Int := if may b d ≠ 0 then may b d else D.may (dk b d) at'
def readL (b : Bn) (d at' : Int) : List Nat := if may b d ≠ 0 then [] else D.readL (dk b d) at'
end B
theorem bread_any (w : World) (base g : Nat) (lv : Value) (hs : List (Nat × Value)) (b : B.Bn) (d at' : Int) (h : IsBench w base g lv hs b) :
    Calls Try.prog 27 #[.pointer (some ⟨g, 0, none⟩), .int .i64 d, .int .i64 at'] w fun e w' => ∃ v, e = .returned (.tuple #[v, .int .i64 (B.readE b d at')]) ∧ Own w' w.heap.size v (B.readL b d at') ∧ Below w.heap.size w w' := by
  have HC := Lib.hid (bmay_any w base g lv hs b d h)
  by_cases hm : B.may b d = 0
  · have HE : Hid (B.readE b d at' = D.may (B.dk b d) at' ∧ B.readL b d at' = D.readL (B.dk b d) at') := by
      unfold B.readE B.readL; rw [if_neg (by simpa using hm), if_neg (by simpa using hm)]; exact ⟨rfl, rfl⟩
    rw [HE.out.1, HE.out.2]
    rw [hm] at HC
    obtain ⟨_, h0, h1⟩ := B.may_zero hm
    obtain ⟨i, rfl⟩ := Int.eq_ofNat_of_zero_le h0
    have hc := h.cell.2.2.2
    obtain ⟨ao, cap, rfl, hcap, _⟩ := h.shape
    obtain ⟨bl, k, dk, rfl, hcell, hk, hdk, hD⟩ := h.get (i := i) (by omega)
    rw [B.dk_nat hdk]
    have HD := Lib.hid hD
    clear hm h hk hdk HE hD
    go_enter Try.func27, Try.ntmps27
    go_wp2_with fail
    refine Calls.mono HC.out ?_
    rintro e w1 ⟨rfl, rfl⟩
    go_wp2_with fail
    refine Calls.mono (readA w _ _ _ _ at' HD.out) ?_
    rintro e w2 ⟨v, rfl, O2, b2⟩
    go_wp2
    go_ret2
    exact ⟨_, rfl, O2, b2⟩
  · have HE : Hid (B.readE b d at' = B.may b d ∧ B.readL b d at' = []) := by
      unfold B.readE B.readL; rw [if_pos hm, if_pos hm]; exact ⟨rfl, rfl⟩
    rw [HE.out.1, HE.out.2]
    obtain ⟨m, hmm⟩ : ∃ m, m = B.may b d := ⟨_, rfl⟩
    rw [← hmm] at hm HC ⊢
    have hb : (m != 0) = true := by rw [bne_iff_ne]; exact hm
    clear hm hmm h HE
    go_enter Try.func27, Try.ntmps27
    go_wp2_with fail
    refine Calls.mono HC.out ?_
    rintro e w1 ⟨rfl, rfl⟩
    go_wp2
    go_ret2
    exact ⟨_, rfl, Own.empty _ _, belR _⟩
theorem rangeAt_setCell {w : World} {g o : Nat} {cs : List Value} {v : Value} (h : w.rangeAt g 0 cs) (ho : o < cs.length) : (w.setCell ⟨g, o, none⟩ v).rangeAt g 0 (cs.set o v) := fun j u hu => by
  rw [Nat.zero_add]
  have h0 := h o cs[o] (List.getElem?_eq_getElem ho)
  rw [Nat.zero_add] at h0
  by_cases e : o = j
  · subst e
    rw [List.getElem?_set_self ho] at hu
    cases hu
    exact World.cell?_setCell_same _ _ _ h0
  · rw [List.getElem?_set_ne e] at hu
    rw [World.cell?_setCell_other _ _ _ _ (by intro e9; cases e9; exact e rfl)]
    have := h j u hu
    rwa [Nat.zero_add] at this
theorem IsBench.frozen {w : World} {base g : Nat} {lv : Value} {hs : List (Nat × Value)} {b : B.Bn} (h : IsBench w base g lv hs b) {o : Nat} (ho : o < 4) : w.frozen? ⟨g, o, none⟩ = false := there_frozen h.there ho
/-- limit -/
theorem blimit_any (w : World) (base g : Nat) (lv : Value) (hs : List (Nat × Value)) (b : B.Bn) (n : Int) (h : IsBench w base g lv hs b) (hn : -9223372036854775808 ≤ n ∧ n ≤ 9223372036854775807) :
    Calls Try.prog 39 #[.pointer (some ⟨g, 0, none⟩), .int .i64 n] w fun e w' => e = .returned (.tuple #[]) ∧ IsBench w' base g lv hs { b with left := if n < -1 then -1 else n } ∧ Fr (fun x => x = g) w w' := by
  have hc := h.cell.2.1
  have hz := h.frozen (o := 1) (by decide)
  have HH := Lib.hid h
  clear h
  have key : ∀ m : Int, IsBench (w.setCell ⟨g, 1, none⟩ (.int .i64 m)) base g lv hs { b with left := m } := fun m =>
    HH.out.setCells (Fr.cell (w := w) ⟨g, 1, none⟩ _) (rangeAt_setCell HH.out.cells (by show 1 < 4; decide)) (World.there_setCells HH.out.there g 1 [.int .i64 m]) rfl
  have HK := Lib.hid key
  clear key
  by_cases hlt : n < -1
  · rw [if_pos hlt]
    go_enter Try.func39, Try.ntmps39
    go_wp2
    all_goals
      go_end0
      refine ⟨rfl, ?_, Fr.cell (w := w) ⟨g, 1, none⟩ _⟩
      first | exact HK.out _ | (have e9 : n = -1 := by omega
                                rw [e9]; exact HK.out _)
  · rw [if_neg hlt]
    go_enter Try.func39, Try.ntmps39
    go_wp2
    all_goals
      go_end0
      refine ⟨rfl, ?_, Fr.cell (w := w) ⟨g, 1, none⟩ _⟩
      first | exact HK.out _ | (have e9 : n = -1 := by omega
                                rw [e9]; exact HK.out _)
/-- count: with no more to be done there is no power -/
theorem bcount_no (w : World) (base g : Nat) (lv : Value) (hs : List (Nat × Value)) (b : B.Bn) (h : IsBench w base g lv hs b) (h0 : b.left = 0) :
    Calls Try.prog 83 #[.pointer (some ⟨g, 0, none⟩)] w fun e w' => e = .returned (.bool false) ∧ IsBench w' base g lv hs { b with down := true } ∧ Fr (fun x => x = g) w w' := by
  have hc := h.cell.2.1
  rw [h0] at hc
  have hd := h.cell.2.2.1
  have hz := h.frozen (o := 2) (by decide)
  have HK : Hid (IsBench (w.setCell ⟨g, 2, none⟩ (.bool true)) base g lv hs { b with down := true }) :=
    h.setCells (Fr.cell (w := w) ⟨g, 2, none⟩ _) (rangeAt_setCell h.cells (by show 2 < 4; decide)) (World.there_setCells h.there g 2 [.bool true]) rfl
  clear h h0
  go_enter Try.func83, Try.ntmps83
  go_wp2
  go_ret
  exact ⟨rfl, HK.out, Fr.cell (w := w) ⟨g, 2, none⟩ _⟩
theorem bcount_yes (w : World) (base g : Nat) (lv : Value) (hs : List (Nat × Value)) (b : B.Bn) (h : IsBench w base g lv hs b) (h0 : b.left ≠ 0) (hw : -4611686018427387904 < b.writes ∧ b.writes < 4611686018427387904) (hl : -4611686018427387904 < b.left ∧ b.left ≤ 9223372036854775807) :
    Calls Try.prog 83 #[.pointer (some ⟨g, 0, none⟩)] w fun e w' => e = .returned (.bool true) ∧ IsBench w' base g lv hs (B.counted b) ∧ Fr (fun x => x = g) w w' := by
  obtain ⟨hc0, hc1, _, _⟩ := h.cell
  have hz0 := h.frozen (o := 0) (by decide)
  have hz1 := h.frozen (o := 1) (by decide)
  have hb : (b.left == 0) = false := by rw [beq_eq_false_iff_ne]; exact h0
  by_cases hp : 0 < b.left
  · have hcnt : B.counted b = { b with writes := b.writes + 1, left := b.left - 1 } := by unfold B.counted; rw [if_pos hp]
    have h1 : IsBench (w.setCell ⟨g, 1, none⟩ (.int .i64 (b.left - 1))) base g lv hs { b with left := b.left - 1 } :=
      h.setCells (Fr.cell (w := w) ⟨g, 1, none⟩ _) (rangeAt_setCell h.cells (by show 1 < 4; decide)) (World.there_setCells h.there g 1 [.int .i64 (b.left - 1)]) rfl
    have HK : Hid (IsBench ((w.setCell ⟨g, 1, none⟩ (.int .i64 (b.left - 1))).setCell ⟨g, 0, none⟩ (.int .i64 (b.writes + 1))) base g lv hs (B.counted b)) := by
      rw [hcnt]
      exact h1.setCells (Fr.cell ⟨g, 0, none⟩ _) (rangeAt_setCell h1.cells (by show 0 < 4; decide)) (World.there_setCells h1.there g 0 [.int .i64 (b.writes + 1)]) rfl
    have hc0' := h1.cell.1
    have hz0' := h1.frozen (o := 0) (by decide)
    have HF : Hid (Fr (fun x => x = g) w ((w.setCell ⟨g, 1, none⟩ (.int .i64 (b.left - 1))).setCell ⟨g, 0, none⟩ (.int .i64 (b.writes + 1)))) := (Fr.cell (w := w) ⟨g, 1, none⟩ _).trans (Fr.cell ⟨g, 0, none⟩ _)
    clear h h1 hcnt h0
    go_enter Try.func83, Try.ntmps83
    go_wp2
    go_ret
    exact ⟨rfl, HK.out, HF.out⟩
  · have hcnt : B.counted b = { b with writes := b.writes + 1 } := by unfold B.counted; rw [if_neg hp]
    have HK : Hid (IsBench (w.setCell ⟨g, 0, none⟩ (.int .i64 (b.writes + 1))) base g lv hs (B.counted b)) := by
      rw [hcnt]
      exact h.setCells (Fr.cell ⟨g, 0, none⟩ _) (rangeAt_setCell h.cells (by show 0 < 4; decide)) (World.there_setCells h.there g 0 [.int .i64 (b.writes + 1)]) rfl
    have HF : Hid (Fr (fun x => x = g) w (w.setCell ⟨g, 0, none⟩ (.int .i64 (b.writes + 1)))) := Fr.cell (w := w) ⟨g, 0, none⟩ _
    clear h hcnt h0
    go_enter Try.func83, Try.ntmps83
    go_wp2
    go_ret
    exact ⟨rfl, HK.out, HF.out⟩
end Go.Proofs.Ytenjpldinnbcbaa
/- The walk of bench's Write. -/

namespace Go.Proofs.Ytenjpldinnbcbaa
open Go.RowKit
set_option linter.unusedVariables false
set_option linter.unusedSimpArgs false
set_option maxRecDepth 100000
set_option maxHeartbeats 1000000

theorem IsBench.small {w : World} {base g : Nat} {lv : Value} {hs : List (Nat × Value)} {b : B.Bn} (h : IsBench w base g lv hs b) (B0 : Nat) (w' : World) (S : Nat → Prop) (k : Fr S w w') (hS : ∀ x, S x → w.heap.size ≤ x) : IsBench w' base g lv hs b :=
  h.fr k (fun x hx hs2 => by have := h.lts x hx; have := hS x hs2; omega)
theorem bwrite_any (w : World) (base g : Nat) (lv : Value) (hs : List (Nat × Value)) (b : B.Bn) (d at' : Int) (bv : Value) (x : List Nat) (h : IsBench w base g lv hs b) (hx : Byt w bv x) (hap : ∀ y, bv.ownBlock = some y → ¬ ofB g lv hs y) (hb0 : base ≤ w.heap.size)
    (hsz : ∀ dk ∈ b.ds, (dk.p.length + 1) * 40 ≤ 140737488355328) (hw : -4611686018427387904 < b.writes ∧ b.writes < 4611686018427387904) (hl : -4611686018427387904 < b.left ∧ b.left ≤ 9223372036854775807) :
    Calls Try.prog 40 #[.pointer (some ⟨g, 0, none⟩), .int .i64 d, .int .i64 at', bv] w fun e w' => e = .returned (.int .i64 (B.writeE b d at' x)) ∧ ∃ hs', IsBench w' base g lv hs' (B.write b d at' x) ∧ Fr (ofB g lv hs) w w' ∧ ∀ y, ofB g lv hs' y → ofB g lv hs y ∨ w.heap.size ≤ y := by
  have HC := Lib.hid (bmay_any w base g lv hs b d h)
  by_cases hm : B.may b d ≠ 0
  · have HE : Hid (B.writeE b d at' x = B.may b d ∧ B.write b d at' x = b) := by
      unfold B.writeE B.write; rw [if_pos hm, if_pos hm]; exact ⟨rfl, rfl⟩
    rw [HE.out.1, HE.out.2]
    obtain ⟨m, hmm⟩ : ∃ m, m = B.may b d := ⟨_, rfl⟩
    rw [← hmm] at hm HC ⊢
    have hb : (m != 0) = true := by rw [bne_iff_ne]; exact hm
    have HH := Lib.hid h
    clear hm hmm h HE hx hap hsz hw hl
    go_enter Try.func40, Try.ntmps40
    go_wp2_with fail
    refine Calls.mono HC.out ?_
    rintro e w1 ⟨rfl, rfl⟩
    go_wp2
    go_ret
    exact ⟨rfl, hs, HH.out, Fr.refl _ _, fun y hy => .inl hy⟩
  · have hm0 : B.may b d = 0 := Classical.byContradiction hm
    rw [hm0] at HC
    obtain ⟨_, h0, h1⟩ := B.may_zero hm0
    obtain ⟨i, rfl⟩ := Int.eq_ofNat_of_zero_le h0
    have hc := h.cell.2.2.2
    obtain ⟨ao, cap, rfl, hcap, _⟩ := h.shape
    obtain ⟨bl, k, dk, rfl, hcell, hk, hdk, hD⟩ := h.get (i := i) (by omega)
    have hdkb : B.dk b (i : Int) = dk := B.dk_nat hdk
    have HD := Lib.hid hD
    have HH := Lib.hid h
    have HK := Lib.hid hk
    have HDK := Lib.hid hdk
    have hdm : dk ∈ b.ds := List.mem_of_getElem? hdk
    have HSZ := Lib.hid (hsz dk hdm)
    have hin : i < b.ds.length := by omega
    have HX := Lib.hid hx
    have HAP := Lib.hid hap
    have HWL := Lib.hid (And.intro hw hl)
    by_cases hp : putI dk at' x ≠ 0
    · have HE : Hid (B.writeE b (i : Int) at' x = putI dk at' x ∧ B.write b (i : Int) at' x = b) := by
        unfold B.writeE B.write; rw [if_neg hm, if_neg hm, hdkb, if_pos hp, if_pos hp]; exact ⟨rfl, rfl⟩
      rw [HE.out.1, HE.out.2]
      obtain ⟨m, hmm⟩ : ∃ m, m = putI dk at' x := ⟨_, rfl⟩
      have HM := Lib.hid hmm
      rw [← hmm] at hp ⊢
      have hb : (m != 0) = true := by rw [bne_iff_ne]; exact hp
      clear hm hm0 hmm h HE hx hap hsz hw hl hk hdk hD hdm hp hdkb
      go_enter Try.func40, Try.ntmps40
      go_wp2_with fail
      refine Calls.mono HC.out ?_
      rintro e w1 ⟨rfl, rfl⟩
      go_wp2_with fail
      refine Calls.mono (dclone_any w _ _ _ _ HD.out (by have := HSZ.out; omega)) ?_
      rintro e w1 ⟨pv1, rfl, E1, b1⟩
      go_wp2_with fail
      refine Calls.mono (writeA w1 _ _ _ _ at' bv x E1 (HX.out.up b1) b1.size HSZ.out) ?_
      rw [← HM.out]
      rintro e w2 ⟨rfl, pv2, E2, F2, p2⟩
      have B2 := F2.low b1 b1.size (fun y hy => E1.ges y hy)
      go_wp2
      go_ret
      exact ⟨rfl, hs, HH.out.up B2, Fr.of_below B2, fun y hy => .inl hy⟩
    · have hp0 : putI dk at' x = 0 := Classical.byContradiction hp
      have HP0 := Lib.hid hp0
      by_cases hl0 : b.left = 0
      · have HE : Hid (B.writeE b (i : Int) at' x = 6 ∧ B.write b (i : Int) at' x = { b with down := true }) := by
          unfold B.writeE B.write; rw [if_neg hm, if_neg hm, hdkb, if_neg hp, if_neg hp, if_pos hl0, if_pos hl0]; exact ⟨rfl, rfl⟩
        rw [HE.out.1, HE.out.2]
        have HL0 := Lib.hid hl0
        clear hm hm0 h HE hx hap hsz hw hl hk hdk hD hdm hp hp0 hdkb hl0
        go_enter Try.func40, Try.ntmps40
        go_wp2_with fail
        refine Calls.mono HC.out ?_
        rintro e w1 ⟨rfl, rfl⟩
        go_wp2_with fail
        refine Calls.mono (dclone_any w _ _ _ _ HD.out (by have := HSZ.out; omega)) ?_
        rintro e w1 ⟨pv1, rfl, E1, b1⟩
        go_wp2_with fail
        refine Calls.mono (writeA w1 _ _ _ _ at' bv x E1 (HX.out.up b1) b1.size HSZ.out) ?_
        rw [HP0.out]
        rintro e w2 ⟨rfl, pv2, E2, F2, p2⟩
        have B2 := F2.low b1 b1.size (fun y hy => E1.ges y hy)
        go_wp2_with fail
        refine Calls.mono (bcount_no w2 _ _ _ _ _ (HH.out.up B2) HL0.out) ?_
        rintro e w3 ⟨rfl, H3, F3⟩
        go_wp2
        go_ret
        exact ⟨rfl, hs, H3, (Fr.of_below B2).trans (F3.mono (fun y hy => .inl hy)), fun y hy => .inl hy⟩
      · have HE : Hid (B.writeE b (i : Int) at' x = 0 ∧ B.write b (i : Int) at' x = { B.counted b with ds := (B.counted b).ds.set i (D.wrote dk at' x) }) := by
          unfold B.writeE B.write; rw [if_neg hm, if_neg hm, hdkb, if_neg hp, if_neg hp, if_neg hl0, if_neg hl0]
          refine ⟨rfl, ?_⟩
          unfold B.setD D.wrote
          rw [if_pos hp0]
          rfl
        rw [HE.out.1, HE.out.2]
        have HL0 := Lib.hid hl0
        clear hm hm0 h HE hx hap hsz hw hl hk hdk hD hdm hp hp0 hdkb hl0
        go_enter Try.func40, Try.ntmps40
        go_wp2_with fail
        refine Calls.mono HC.out ?_
        rintro e w1 ⟨rfl, rfl⟩
        go_wp2_with fail
        refine Calls.mono (dclone_any w _ _ _ _ HD.out (by have := HSZ.out; omega)) ?_
        rintro e w1 ⟨pv1, rfl, E1, b1⟩
        go_wp2_with fail
        refine Calls.mono (writeA w1 _ _ _ _ at' bv x E1 (HX.out.up b1) b1.size HSZ.out) ?_
        rw [HP0.out]
        rintro e w2 ⟨rfl, pv2, E2, F2, p2⟩
        have B2 := F2.low b1 b1.size (fun y hy => E1.ges y hy)
        go_wp2_with fail
        refine Calls.mono (bcount_yes w2 _ _ _ _ _ (HH.out.up B2) HL0.out HWL.out.1 HWL.out.2) ?_
        rintro e w3 ⟨rfl, H3, F3⟩
        have hc3 := H3.cell.2.2.2
        obtain ⟨bl3, k3, dk3, e3, hcell3, hk3, hdk3, D3⟩ := H3.get (i := i) hin
        cases e3
        have ek : k3 = k := Option.some.inj (hk3.symm.trans HK.out)
        have ed : dk3 = dk := Option.some.inj (hdk3.symm.trans HDK.out)
        rw [ek] at hcell3 hk3 D3
        rw [ed] at D3 hdk3
        have HK3 := Lib.hid hk3
        have HX3 := Lib.hid (Byt.fr (HX.out.up B2) F3 (fun y hy e9 => HAP.out y hy (.inl e9)))
        have HD3 := Lib.hid D3
        have HH3 := Lib.hid H3
        have hs3 : base ≤ w3.heap.size := Nat.le_trans hb0 (Nat.le_trans B2.size F3.size)
        have hs23 : w.heap.size ≤ w3.heap.size := Nat.le_trans B2.size F3.size
        clear hk3 hdk3 D3 H3 ek ed
        go_wp2_with fail
        refine Calls.mono (writeA w3 _ _ _ _ at' bv x HD3.out HX3.out hs3 HSZ.out) ?_
        rw [HP0.out]
        rintro e w4 ⟨rfl, pv4, D4, F4, p4⟩
        obtain ⟨H4, G4, q4⟩ := HH3.out.setDisk HK3.out F4 D4 p4
        go_wp2
        go_ret
        refine ⟨rfl, _, H4, ((Fr.of_below B2).trans (F3.mono (fun y hy => .inl hy))).trans G4, fun y hy => ?_⟩
        rcases q4 y hy with h9 | h9
        · exact .inl h9
        · exact .inr (by omega)
end Go.Proofs.Ytenjpldinnbcbaa
/- The walks of bench's Pending, Fail, Failed, Flush, Damage. -/

namespace Go.Proofs.Ytenjpldinnbcbaa
open Go.RowKit
set_option linter.unusedVariables false
set_option linter.unusedSimpArgs false
set_option maxRecDepth 100000
set_option maxHeartbeats 1000000

theorem sum_le_all : ∀ (l : List Nat) (k : Nat), (l.take k).sum ≤ l.sum
  | [], k => by simp
  | x :: l, 0 => by simp
  | x :: l, k + 1 => by
    rw [List.take_succ_cons, List.sum_cons, List.sum_cons]
    have := sum_le_all l k
    omega
theorem bpending_any (w : World) (base g : Nat) (lv : Value) (hs : List (Nat × Value)) (b : B.Bn) (h : IsBench w base g lv hs b) (hp : B.pending b ≤ 4611686018427387904) :
    Calls Try.prog 25 #[.pointer (some ⟨g, 0, none⟩)] w fun e w' => e = .returned (.int .i64 (B.pending b : Nat)) ∧ w = w' := by
  have hc := h.cell.2.2.2
  have HH := Lib.hid h
  have HP := Lib.hid hp
  obtain ⟨ao, cap, rfl, hcap, _⟩ := h.shape
  clear h hp
  go_enter Try.func25, Try.ntmps25
  go_wp2
  go_loopw [3, 11] (fun n i w' => ∃ k : Nat, k ≤ b.ds.length ∧ i = .int .i64 k ∧ n = .int .i64 (((b.ds.map (fun d => d.p.length)).take k).sum : Nat) ∧ w = w') (fun _ i _ => b.ds.length - (intOf i).toNat)
  case atStart => exact ⟨0, Nat.zero_le _, rfl, rfl, rfl⟩
  case round =>
    obtain ⟨k, hk, rfl, rfl, rfl⟩ := hrel
    by_cases hlt : k < b.ds.length
    · obtain ⟨bl, y, d, rfl, hcell, hky, hdk, hD⟩ := HH.out.get hlt
      have hs1 := sum_le_all (b.ds.map (fun d => d.p.length)) (k + 1)
      have hs2 : ((b.ds.map (fun d => d.p.length)).take (k + 1)).sum = ((b.ds.map (fun d => d.p.length)).take k).sum + d.p.length := by
        rw [take_succ_get (c := d.p.length) (by rw [List.getElem?_map, hdk]; rfl), List.sum_append]
        simp
      have hs3 : (b.ds.map (fun d => d.p.length)).sum ≤ 4611686018427387904 := HP.out
      have HS2 := Lib.hid hs2
      obtain ⟨s, hs⟩ : ∃ s, s = ((b.ds.map (fun d => d.p.length)).take k).sum := ⟨_, rfl⟩
      rw [← hs] at hs2 HS2 ⊢
      have hs4 : s + d.p.length ≤ 4611686018427387904 := by omega
      have HD := Lib.hid hD
      clear hs hs1 hs2 hs3 hky hdk hD
      go_wp2_with fail
      refine Calls.mono (pending_any _ _ _ _ _ HD.out) ?_
      rintro e w2 ⟨rfl, rfl⟩
      go_wp2
      go_roundw
      case rel => exact ⟨k + 1, by omega, by go_num, by rw [HS2.out]; first | rfl | go_num, by first | trivial | rfl⟩
      case measure => simp [intOf]; omega
    · have hke : k = b.ds.length := by omega
      have HE : Hid (((b.ds.map (fun d => d.p.length)).take k).sum = B.pending b) := by
        show _ = _
        unfold B.pending
        rw [List.take_of_length_le (by simp; omega)]
      rw [HE.out]
      clear hke HE
      go_wp2
      go_ret
      exact ⟨rfl, rfl⟩
theorem bfail_any (w : World) (base g : Nat) (lv : Value) (hs : List (Nat × Value)) (b : B.Bn) (i : Nat) (h : IsBench w base g lv hs b) (hi : i < b.ds.length) :
    Calls Try.prog 24 #[.pointer (some ⟨g, 0, none⟩), .int .i64 i] w fun e w' => e = .returned (.int .i64 0) ∧ ∃ hs', IsBench w' base g lv hs' { b with ds := b.ds.set i D.fail } ∧ Fr (ofB g lv hs) w w' ∧ ∀ y, ofB g lv hs' y → ofB g lv hs y ∨ w.heap.size ≤ y := by
  have HC := bis_any w base g lv hs b (i : Int) h
  rw [show B.is b (i : Int) = true from decide_eq_true ⟨by omega, by omega⟩] at HC
  have HC := Lib.hid HC
  have hc := h.cell.2.2.2
  obtain ⟨ao, cap, rfl, hcap, _⟩ := h.shape
  obtain ⟨bl, k, dk, rfl, hcell, hk, hdk, hD⟩ := h.get (i := i) hi
  have HH := Lib.hid h
  have HK := Lib.hid hk
  have HD := Lib.hid hD
  clear h hk hdk hD
  go_enter Try.func24, Try.ntmps24
  go_wp2_with fail
  refine Calls.mono HC.out ?_
  rintro e w1 ⟨rfl, rfl⟩
  go_wp2_with fail
  refine Calls.mono (fail_any w _ _ _ _ HD.out) ?_
  rintro e w2 ⟨rfl, D2, F2⟩
  obtain ⟨H4, G4, q4⟩ := HH.out.setDisk HK.out F2.obj D2 (fun x hx => by cases hx)
  go_wp2
  go_ret
  exact ⟨rfl, _, H4, G4, q4⟩
theorem bfailed_any (w : World) (base g : Nat) (lv : Value) (hs : List (Nat × Value)) (b : B.Bn) (i : Nat) (h : IsBench w base g lv hs b) (hi : i < b.ds.length) :
    Calls Try.prog 47 #[.pointer (some ⟨g, 0, none⟩), .int .i64 i] w fun e w' => e = .returned (.bool (B.dk b i).f) ∧ w = w' := by
  have HC := bis_any w base g lv hs b (i : Int) h
  rw [show B.is b (i : Int) = true from decide_eq_true ⟨by omega, by omega⟩] at HC
  have HC := Lib.hid HC
  have hc := h.cell.2.2.2
  obtain ⟨ao, cap, rfl, hcap, _⟩ := h.shape
  obtain ⟨bl, k, dk, rfl, hcell, hk, hdk, hD⟩ := h.get (i := i) hi
  rw [B.dk_nat hdk]
  have HD := Lib.hid hD
  clear h hk hdk hD
  go_enter Try.func47, Try.ntmps47
  go_wp2_with fail
  refine Calls.mono HC.out ?_
  rintro e w1 ⟨rfl, rfl⟩
  go_wp2_with fail
  refine Calls.mono (failed_any w _ _ _ _ HD.out) ?_
  rintro e w2 ⟨rfl, rfl⟩
  go_wp2
  go_ret
  exact ⟨rfl, rfl⟩
theorem bflush_down (w : World) (base g : Nat) (lv : Value) (hs : List (Nat × Value)) (b : B.Bn) (d : Int) (h : IsBench w base g lv hs b) (hm : B.may b d ≠ 0) :
    Calls Try.prog 58 #[.pointer (some ⟨g, 0, none⟩), .int .i64 d] w fun e w' => e = .returned (.int .i64 (B.may b d)) ∧ w = w' := by
  have HC := Lib.hid (bmay_any w base g lv hs b d h)
  obtain ⟨m, hmm⟩ : ∃ m, m = B.may b d := ⟨_, rfl⟩
  rw [← hmm] at hm HC ⊢
  have hb : (m != 0) = true := by rw [bne_iff_ne]; exact hm
  clear hm hmm h
  go_enter Try.func58, Try.ntmps58
  go_wp2_with fail
  refine Calls.mono HC.out ?_
  rintro e w1 ⟨rfl, rfl⟩
  go_wp2
  go_ret
  exact ⟨rfl, rfl⟩
theorem bflush_yes (w : World) (base g : Nat) (lv : Value) (hs : List (Nat × Value)) (b : B.Bn) (i : Nat) (h : IsBench w base g lv hs b) (hi : i < b.ds.length) (hd : b.down = false) :
    Calls Try.prog 58 #[.pointer (some ⟨g, 0, none⟩), .int .i64 i] w fun e w' => e = .returned (.int .i64 (if (B.dk b i).f then 5 else 0)) ∧ ∃ hs', IsBench w' base g lv hs' { b with ds := b.ds.set i (D.flushed (B.dk b i)) } ∧ Fr (ofB g lv hs) w w' ∧ ∀ y, ofB g lv hs' y → ofB g lv hs y ∨ w.heap.size ≤ y := by
  have HC := bmay_any w base g lv hs b (i : Int) h
  have hm0 : B.may b (i : Int) = 0 := by unfold B.may; rw [show B.is b (i : Int) = true from decide_eq_true ⟨by omega, by omega⟩, hd]; rfl
  rw [hm0] at HC
  have HC := Lib.hid HC
  have hc := h.cell.2.2.2
  obtain ⟨ao, cap, rfl, hcap, _⟩ := h.shape
  obtain ⟨bl, k, dk, rfl, hcell, hk, hdk, hD⟩ := h.get (i := i) hi
  rw [B.dk_nat hdk]
  have HH := Lib.hid h
  have HK := Lib.hid hk
  obtain ⟨m, hm⟩ : ∃ m : Int, m = if dk.f then 5 else 0 := ⟨_, rfl⟩
  have hfl := flushA w _ _ _ _ hD
  rw [← hm] at hfl ⊢
  have HFL := Lib.hid hfl
  clear h hk hdk hD hm0 hd hm hfl
  go_enter Try.func58, Try.ntmps58
  go_wp2_with fail
  refine Calls.mono HC.out ?_
  rintro e w1 ⟨rfl, rfl⟩
  go_wp2_with fail
  refine Calls.mono HFL.out ?_
  rintro e w2 ⟨rfl, pv2, D2, F2, p2⟩
  obtain ⟨H4, G4, q4⟩ := HH.out.setDisk HK.out F2 D2 p2
  go_wp2
  go_ret
  exact ⟨rfl, _, H4, G4, q4⟩
end Go.Proofs.Ytenjpldinnbcbaa
/- What a bench answers, in plain terms; and the document's own example of a bench. -/

namespace Go.Proofs.Ytenjpldinnbcbaa
open Go.RowKit
set_option linter.unusedVariables false
set_option linter.unusedSimpArgs false
set_option maxRecDepth 100000
set_option maxHeartbeats 1000000
namespace B
theorem may_ok {b : Bn} {i : Nat} (hd : b.down = false) (hi : i < b.ds.length) : may b (i : Int) = 0 := by
  unfold may
  rw [show is b (i : Int) = true from decide_eq_true ⟨by omega, by omega⟩, hd]
  rfl
theorem may_down {b : Bn} {i : Nat} (hd : b.down = true) (hi : i < b.ds.length) : may b (i : Int) = 6 := by
  unfold may
  rw [show is b (i : Int) = true from decide_eq_true ⟨by omega, by omega⟩, hd]
  rfl
theorem put_ok {d : D.Dk} (hf : d.f = false) {a : Nat} (ha : a < 52) {x : List Nat} (hx : x.length = 32) : putI d (a : Int) x = 0 := by
  have hm : D.may d (a : Int) = 0 := by unfold D.may; rw [hf, if_neg (by decide), if_neg (by omega)]
  unfold putI
  rw [hm, if_neg (by decide), if_neg (by simpa using hx)]
theorem write_ok {b : Bn} {i a : Nat} {d : D.Dk} {x : List Nat} (hd : b.down = false) (hi : b.ds[i]? = some d) (hf : d.f = false) (ha : a < 52) (hx : x.length = 32) (hl : b.left ≠ 0) :
    writeE b (i : Int) (a : Int) x = 0 ∧ write b (i : Int) (a : Int) x = { counted b with ds := b.ds.set i (D.write d a x) } := by
  have hlt : i < b.ds.length := (List.getElem?_eq_some_iff.1 hi).1
  have hk := dk_nat hi
  have hm := may_ok hd hlt
  have hp := put_ok hf ha hx
  unfold writeE write
  rw [hk, hm, hp]
  simp only [ne_eq, not_true_eq_false, if_false, if_neg hl]
  exact ⟨trivial, rfl⟩
theorem write_spent {b : Bn} {i a : Nat} {d : D.Dk} {x : List Nat} (hd : b.down = false) (hi : b.ds[i]? = some d) (hf : d.f = false) (ha : a < 52) (hx : x.length = 32) (hl : b.left = 0) :
    writeE b (i : Int) (a : Int) x = 6 ∧ write b (i : Int) (a : Int) x = { b with down := true } := by
  have hlt : i < b.ds.length := (List.getElem?_eq_some_iff.1 hi).1
  have hk := dk_nat hi
  have hm := may_ok hd hlt
  have hp := put_ok hf ha hx
  unfold writeE write
  rw [hk, hm, hp]
  simp only [ne_eq, not_true_eq_false, if_false, if_pos hl]
  exact ⟨trivial, trivial⟩
theorem write_down {b : Bn} {i : Nat} {a : Int} {x : List Nat} (hd : b.down = true) (hi : i < b.ds.length) :
    writeE b (i : Int) a x = 6 ∧ write b (i : Int) a x = b := by
  unfold writeE write
  rw [may_down hd hi, if_pos (by decide), if_pos (by decide)]
  exact ⟨rfl, rfl⟩
theorem read_ok {b : Bn} {i a : Nat} {d : D.Dk} (hd : b.down = false) (hi : b.ds[i]? = some d) (hf : d.f = false) (ha : a < 52) :
    readE b (i : Int) (a : Int) = 0 ∧ readL b (i : Int) (a : Int) = D.look d a := by
  have hlt : i < b.ds.length := (List.getElem?_eq_some_iff.1 hi).1
  have hk := dk_nat hi
  have hm : D.may d (a : Int) = 0 := by unfold D.may; rw [hf, if_neg (by decide), if_neg (by omega)]
  unfold readE readL
  rw [if_neg (by rw [may_ok hd hlt]; decide), if_neg (by rw [may_ok hd hlt]; decide), hk, hm]
  unfold D.readL
  rw [hm, if_pos rfl]
  exact ⟨rfl, rfl⟩
theorem fresh_get {n i : Nat} (hi : i < n) : (fresh n).ds[i]? = some D.blank := by unfold fresh; simp [hi]
end B
attribute [local irreducible] Go.Calls Byt Own Parts Bools
end Go.Proofs.Ytenjpldinnbcbaa
/- The walk of bench.New. -/

namespace Go.Proofs.Ytenjpldinnbcbaa
open Go.RowKit
set_option linter.unusedVariables false
set_option linter.unusedSimpArgs false
set_option maxRecDepth 100000
set_option maxHeartbeats 1000000
attribute [local go_sem ↓] Go.wp_at_zero Go.wp_at_succ

/-- one disk more -/
theorem IsBench.add {w w3 : World} {base g gd : Nat} {lv lv' : Value} {pvd : Value} {dd : D.Dk} {hs : List (Nat × Value)} {b : B.Bn} (h : IsBench w base g lv hs b) (hd : IsDisk w3 base gd pvd dd) (hnew : ∀ x, ofD gd pvd x → w.heap.size ≤ x)
    (hrow : w3.ownsRow base 100 1 lv' (hs.length + 1) ((hs ++ [(gd, pvd)]).map hptr)) (hF : Fr (fun x => lv.ownBlock = some x) w w3) (hp : ∀ x, lv'.ownBlock = some x → lv.ownBlock = some x ∨ (w.heap.size ≤ x ∧ ¬ ofD gd pvd x)) :
    IsBench (w3.setCell ⟨g, 3, none⟩ lv') base g lv' (hs ++ [(gd, pvd)]) { b with ds := b.ds ++ [dd] } := by
  have hgl := h.lt
  have hap : lv'.ownBlock ≠ some g := fun e => by
    rcases hp g e with h1 | h1
    · exact h.ap h1
    · omega
  have hFc : Fr (fun x => x = g) w3 (w3.setCell ⟨g, 3, none⟩ lv') := Fr.cell ⟨g, 3, none⟩ lv'
  have hget : ∀ (i : Nat) (y : Nat × Value), (hs ++ [(gd, pvd)])[i]? = some y → (i < hs.length ∧ hs[i]? = some y) ∨ (i = hs.length ∧ y = (gd, pvd)) := fun i y hy => by
    by_cases hi : i < hs.length
    · rw [List.getElem?_append_left hi] at hy
      exact .inl ⟨hi, hy⟩
    · rw [List.getElem?_append_right (by omega)] at hy
      have h0 : i - hs.length = 0 := by
        have := (List.getElem?_eq_some_iff.1 hy).1
        simp at this
        omega
      rw [h0] at hy
      exact .inr ⟨by omega, (Option.some.inj hy).symm⟩
  have hold : ∀ (i : Nat) (y : Nat × Value), hs[i]? = some y → ∀ x, ofD y.1 y.2 x → x < w.heap.size := fun i y hy x hx => h.lts x (.inr (.inr ⟨i, y, hy, hx⟩))
  refine ⟨h.ge, Nat.lt_of_lt_of_le hgl (Nat.le_trans hF.size hFc.size), ?_, ?_, ?_, by simp [h.len], ?_, ?_, ?_, hap⟩
  · have := rangeAt_setCell (v := lv') (rangeAt_fr h.cells hF h.ap) (o := 3) (by show 3 < 4; decide)
    exact this
  · exact World.there_setCells (there_fr h.there hF h.ap) g 3 [lv']
  · rw [show (hs ++ [(gd, pvd)]).length = hs.length + 1 by simp]
    exact row_fr hrow hFc (fun x hx e => hap (by rw [hx, e]))
  · intro i y d hy hd2
    rcases hget i y hy with ⟨hi, hy⟩ | ⟨hi, rfl⟩
    · rw [List.getElem?_append_left (by rw [← h.len]; exact hi)] at hd2
      exact ((h.disk i y d hy hd2).fr hF (fun x hx e => (h.own i y hy x hx).2 e)).fr hFc (fun x hx e => (h.own i y hy x hx).1 e)
    · rw [List.getElem?_append_right (by rw [← h.len]; omega), hi, ← h.len] at hd2
      simp at hd2
      subst hd2
      exact hd.fr hFc (fun x hx e => by have := hnew x hx; omega)
  · intro i j y z hy hz hij x hx hx2
    rcases hget i y hy with ⟨hi, hy⟩ | ⟨hi, rfl⟩
    · rcases hget j z hz with ⟨hj, hz⟩ | ⟨hj, rfl⟩
      · exact h.apart i j y z hy hz hij x hx hx2
      · have h1 := hold i y hy x hx
        have h2 := hnew x hx2
        omega
    · rcases hget j z hz with ⟨hj, hz⟩ | ⟨hj, rfl⟩
      · have h1 := hold j z hz x hx2
        have h2 := hnew x hx
        omega
      · omega
  · intro i y hy x hx
    rcases hget i y hy with ⟨hi, hy⟩ | ⟨hi, rfl⟩
    · refine ⟨(h.own i y hy x hx).1, fun e => ?_⟩
      rcases hp x e with h1 | h1
      · exact (h.own i y hy x hx).2 h1
      · have := hold i y hy x hx
        omega
    · refine ⟨fun e => by have := hnew x hx; omega, fun e => ?_⟩
      rcases hp x e with h1 | h1
      · have h2 := (h.row.lt x h1).2
        have h3 := hnew x hx
        omega
      · exact h1.2 hx
theorem built_cnt : Try.prog.built 42 [(1, .int .i64 (-1))] = some #[.int .i64 0, .int .i64 (-1), .bool false] := by kernel_rfl
theorem built_bench : Try.prog.built 45 [(0, .agg #[.int .i64 0, .int .i64 (-1), .bool false])] = some #[.int .i64 0, .int .i64 (-1), .bool false, .slice none 0 0] := by kernel_rfl
theorem ptr_info : (Try.prog.info? 100).map (fun i => (i.zero, i.size, i.bytes)) = some (some (.pointer none), 1, 8) := by kernel_rfl
theorem B.fresh_succ (n : Nat) : { B.fresh n with ds := (B.fresh n).ds ++ [D.blank] } = B.fresh (n + 1) := by
  unfold B.fresh
  rw [List.replicate_succ']
theorem hptr_one (l : List (Nat × Value)) : ∀ u ∈ l.map hptr, u.oneCell' = true := by
  intro u hu
  obtain ⟨x, _, rfl⟩ := List.mem_map.1 hu
  rfl
theorem bnew_any (w : World) (n : Nat) (h1 : 1 ≤ n) (h8 : n ≤ 8) :
    Calls Try.prog 15 #[.int .i64 n] w fun e w' => e = .returned (.tuple #[.pointer (some ⟨w.heap.size, 0, none⟩), .int .i64 0]) ∧ (∃ lv hs, IsBench w' w.heap.size w.heap.size lv hs (B.fresh n)) ∧ Below w.heap.size w w' := by
  obtain ⟨j0, hj, hy0, hy1, hy2⟩ := info_parts ptr_info
  have hbc := built_cnt
  have hbb := built_bench
  have HBC := Lib.hid hbc
  have HBB := Lib.hid hbb
  have HR0 : Hid (∃ lv hs, IsBench (w.alloc (.cells #[.int .i64 0, .int .i64 (-1), .bool false, .slice none 0 0] 45)) w.heap.size w.heap.size lv hs (B.fresh 0) ∧ Below w.heap.size w (w.alloc (.cells #[.int .i64 0, .int .i64 (-1), .bool false, .slice none 0 0] 45))) := by
    have hb := Box.new w [.int .i64 0, .int .i64 (-1), .bool false, .slice none 0 0] 45
    exact ⟨.slice none 0 0, [], ⟨Nat.le_refl _, by simp, hb.range, hb.there, World.ownsRow_nil _ _ _ _, rfl, (fun i h d hh => by simp at hh), (fun i j h k hh => by simp at hh), (fun i h hh => by simp at hh), (by intro e; cases e)⟩, belA1 (belR w)⟩
  clear hbc hbb
  go_enter Try.func15, Try.ntmps15
  go_wp2_with (first
    | (refine wpList_build_as rfl 42 _ rfl #[.int .i64 0, .int .i64 (-1), .bool false] HBC.out ?_)
    | (refine wpList_build_as rfl 45 _ rfl #[.int .i64 0, .int .i64 (-1), .bool false, .slice none 0 0] HBB.out ?_)
    | fail)
  go_loopw [15] (fun i w' => ∃ k : Nat, k ≤ n ∧ i = .int .i64 k ∧ Hid (∃ lv hs, IsBench w' w.heap.size w.heap.size lv hs (B.fresh k) ∧ Below w.heap.size w w')) (fun i _ => n - (intOf i).toNat)
  case atStart => exact ⟨0, Nat.zero_le _, rfl, HR0⟩
  case round =>
    clear HR0
    obtain ⟨k, hk, rfl, HR⟩ := hrel
    obtain ⟨lv, hs, H1, B1⟩ := HR.out
    by_cases hlt : k < n
    · have hc3 := H1.cell.2.2.2
      have hz3 := H1.frozen (o := 3) (by decide)
      have hfl : (B.fresh k).ds.length = k := by unfold B.fresh; simp
      obtain ⟨ao, cap, hlv, hcap, _⟩ := H1.shape
      rw [hfl] at hlv hcap
      subst hlv
      have hlen : hs.length = k := by rw [H1.len]; unfold B.fresh; simp
      have HH := Lib.hid H1
      have HB1 := Lib.hid B1
      have HLN := Lib.hid hlen
      have hu65 := Try.underlying43
      have hgl : w.heap.size < wr.heap.size := H1.lt
      clear H1 B1 hlen
      go_wp2_with fail
      have hcW : ∀ ob, (wr.alloc ob).cell? ⟨w.heap.size, 3, none⟩ = some (.slice ao k cap) := fun ob => cell_fr hc3 (Fr.alloc (S := fun _ => False) _ _) id
      have hBr : Below wr.heap.size wr wr := belR _
      have HOWN : Hid (∀ W, Below wr.heap.size wr W → W.ownsRow w.heap.size 100 1 (.slice ao k cap) k (hs.map hptr)) := fun W hW => by
        have h9 := row_fr HH.out.row (Fr.of_below (S := fun _ => False) hW) (fun _ _ => id)
        rw [HLN.out] at h9
        exact h9
      have HADD : Hid (∀ (W w3 : World) (v' : Value) (hd : IsDisk W w.heap.size wr.heap.size (.slice none 0 0) D.blank), Below wr.heap.size wr W → W.grownBy w3 (Value.slice ao k cap).ownBlock → w3.ownsRow w.heap.size 100 1 v' (k + 1) (hs.map hptr ++ [.pointer (some ⟨wr.heap.size, 0, none⟩)]) → (∀ x, v'.ownBlock = some x → (Value.slice ao k cap).ownBlock = some x ∨ W.heap.size ≤ x) →
          IsBench (w3.setCell ⟨w.heap.size, 3, none⟩ v') w.heap.size w.heap.size v' (hs ++ [(wr.heap.size, .slice none 0 0)]) (B.fresh (k + 1)) ∧ Below w.heap.size w (w3.setCell ⟨w.heap.size, 3, none⟩ v') ∧ w3.cell? ⟨w.heap.size, 3, none⟩ = some (.slice ao k cap) ∧ w3.frozen? ⟨w.heap.size, 3, none⟩ = false) := fun W w3 v' hd hW hg ho hp => by
        have hF : Fr (fun x => (Value.slice ao k cap).ownBlock = some x) wr w3 := (Fr.of_below hW).trans (Fr.grown hg)
        have hFg := Fr.grown hg
        have hnd : ¬ (Value.slice ao k cap).ownBlock = some wr.heap.size := fun e => by
          have := (HH.out.row.lt _ e).2
          omega
        refine ⟨?_, ?_, cell_fr (cell_fr hc3 (Fr.of_below (S := fun _ => False) hW) id) hFg HH.out.ap, there_frozen (there_fr (there_fr HH.out.there (Fr.of_below (S := fun _ => False) hW) id) hFg HH.out.ap) (by decide)⟩
        · rw [← B.fresh_succ]
          refine HH.out.add (hd.fr hFg (fun x hx => by rcases hx with rfl | hx; exact hnd; cases hx)) (fun x hx => by rcases hx with rfl | hx; exact Nat.le_refl _; cases hx) ?_ hF (fun x hx => ?_)
          · rw [HLN.out, List.map_append]
            exact ho
          · rcases hp x hx with h9 | h9
            · exact .inl h9
            · have := hd.lt
              exact .inr ⟨by have := hW.size; omega, fun e => by rcases e with e | e; omega; cases e⟩
        · have h1 := Fr.below HB1.out hF HB1.out.size (fun x hx => (HH.out.row.lt x hx).1)
          exact Fr.below h1 (Fr.cell ⟨w.heap.size, 3, none⟩ v') h1.size (fun x hx => by rw [hx]; exact Nat.le_refl _)
      have hHeld0 : True := trivial
      refine wp_region_held_drew (S := fun _ => True) (by kernel_rfl) trivial (fun hHeld => ?_)
      refine wpAnyH_take (i := 0) (oi := _) (v := ?_) rfl (by kernel_rfl) (by kernel_rfl) (by kernel_rfl) (fun _ _ _ h => h) (Or.inl ⟨by rfl, ?_⟩) (by assumption) ?_
      rotate_left
      · intro w hSw
        go_simp
        try with_reducible rfl
      try simp only [Act.put, List.getElem_toArray, List.getElem_cons_zero, List.getElem_cons_succ, List.setIfInBounds_toArray, List.set_cons_zero, List.set_cons_succ]
      refine wpAnyH_take (i := 1) (oi := _) (v := ?_) rfl (by kernel_rfl) (by kernel_rfl) (by kernel_rfl) (fun _ _ _ h => h) (Or.inl ⟨by rfl, ?_⟩) (by assumption) ?_
      rotate_left
      · intro w hSw
        go_simp
        try with_reducible rfl
      try simp only [Act.put, List.getElem_toArray, List.getElem_cons_zero, List.getElem_cons_succ, List.setIfInBounds_toArray, List.set_cons_zero, List.set_cons_succ]
      refine wpAnyH_take (i := 2) (oi := _) (v := ?_) rfl (by kernel_rfl) (by kernel_rfl) (by kernel_rfl) (fun _ _ _ h => h) (Or.inl ⟨by rfl, ?_⟩) (by assumption) ?_
      rotate_left
      · intro w hSw
        go_simp
        try with_reducible rfl
      try simp only [Act.put, List.getElem_toArray, List.getElem_cons_zero, List.getElem_cons_succ, List.setIfInBounds_toArray, List.set_cons_zero, List.set_cons_succ]
      refine wpAnyH_take (i := 3) (oi := _) (v := ?_) rfl (by kernel_rfl) (by kernel_rfl) (by kernel_rfl) (fun _ _ _ h => h) (Or.inl ⟨by rfl, ?_⟩) (by assumption) ?_
      rotate_left
      · intro w hSw
        go_simp
        try with_reducible rfl
      try simp only [Act.put, List.getElem_toArray, List.getElem_cons_zero, List.getElem_cons_succ, List.setIfInBounds_toArray, List.set_cons_zero, List.set_cons_succ]
      refine wpAnyH_ready (rs := [4, 5]) (by kernel_rfl) (by simp) ?_
      refine AllReadyH.cons (o := _) rfl (fun K hK => ?_) (AllReadyH.cons (o := _) rfl (fun K hK => ?_) AllReadyH.nil)
      · go_simp
        refine hK.out _ _ trivial (fun hHeld => ?_)
        clear hK K
        try simp only [Act.put, List.getElem_toArray, List.getElem_cons_zero, List.getElem_cons_succ, List.setIfInBounds_toArray, List.set_cons_zero, List.set_cons_succ]
        refine wpAnyH_ready (rs := [5]) (by kernel_rfl) (by simp) ?_
        refine AllReadyH.cons (o := _) rfl (fun K hK => ?_) AllReadyH.nil
        go_simp
        refine Calls.mono (newI _) ?_
        rintro e w2 ⟨rfl, D2, b2⟩
        have hB2 : Below wr.heap.size wr w2 := (by first | exact b2 | exact belT (belDr (belR _)) b2)
        have hcA : w2.cell? ⟨w.heap.size, 3, none⟩ = some (.slice ao k cap) := cell_fr hc3 (Fr.of_below (S := fun _ => False) hB2) id
        have hcB : ∀ ob, (w2.alloc ob).cell? ⟨w.heap.size, 3, none⟩ = some (.slice ao k cap) := fun ob => cell_fr hcA (Fr.alloc (S := fun _ => False) _ _) id
        have hD2 : IsDisk w2 w.heap.size wr.heap.size (.slice none 0 0) D.blank := D2.low (Nat.le_of_lt hgl)
        try go_simp
        refine hK.out _ _ trivial (fun hHeld => ?_)
        clear hK K
        try simp only [Act.put, List.getElem_toArray, List.getElem_cons_zero, List.getElem_cons_succ, List.setIfInBounds_toArray, List.set_cons_zero, List.set_cons_succ]
        refine wpAnyH_ready (rs := [6]) (by kernel_rfl) (by simp) ?_
        refine AllReadyH.cons (o := _) rfl (fun K hK => ?_) AllReadyH.nil
        go_simp
        refine hK.out _ _ trivial (fun hHeld => ?_)
        clear hK K
        try simp only [Act.put, List.getElem_toArray, List.getElem_cons_zero, List.getElem_cons_succ, List.setIfInBounds_toArray, List.set_cons_zero, List.set_cons_succ]
        refine wpAnyH_ready (rs := [7]) (by kernel_rfl) (by simp) ?_
        refine AllReadyH.cons (o := _) rfl (fun K hK => ?_) AllReadyH.nil
        rw [if_pos (by rfl)]
        refine wp_append_pl _ _ 43 rfl w.heap.size 100 j0 _ 1 8 hu65 hj hy0 hy1 hy2 rfl (by decide) (.slice ao k cap) k (hs.map hptr) rfl (HOWN.out _ (by iterate 6 try (first | assumption | exact belR _ | apply belDr | apply belAlloc))) ⟨w2.heap.size, 0, none⟩ 1 1 [.pointer (some ⟨wr.heap.size, 0, none⟩)] rfl rfl (by first | exact news_at rfl rfl | exact fun j u hu => news_at (W := w2) rfl rfl j u hu) (fun u hu => by rw [List.mem_singleton.1 hu]; rfl) (by simp only [maxLen]; omega) (by omega) (by first | (have := hB2.size; simp; omega)) ?_
        intro v' w3 ho hg hpl
        obtain ⟨ao', cap', rfl⟩ := row_shape ho
        obtain ⟨HQ, hQB, hcS, hzS⟩ := HADD.out _ w3 _ (hD2.up (by iterate 6 try (first | exact belR _ | apply belDr | apply belAlloc))) (by iterate 6 try (first | assumption | exact belR _ | apply belDr | apply belAlloc)) hg ho hpl
        have HQ := Lib.hid HQ
        refine hK.out _ _ trivial (fun hHeld => ?_)
        clear hK K
        try simp only [Act.put, List.getElem_toArray, List.getElem_cons_zero, List.getElem_cons_succ, List.setIfInBounds_toArray, List.set_cons_zero, List.set_cons_succ]
        refine wpAnyH_take (i := 8) (oi := _) (v := ?_) rfl (by kernel_rfl) (by kernel_rfl) (by kernel_rfl) (fun _ _ _ h => h) (Or.inl ⟨by rfl, ?_⟩) (by assumption) ?_
        rotate_left
        · intro w hSw
          go_simp
          try with_reducible rfl
        try simp only [Act.put, List.getElem_toArray, List.getElem_cons_zero, List.getElem_cons_succ, List.setIfInBounds_toArray, List.set_cons_zero, List.set_cons_succ]
        refine wpAnyH_take (i := 9) (oi := _) (v := ?_) rfl (by kernel_rfl) (by kernel_rfl) (by kernel_rfl) (fun _ _ _ h => h) (Or.inl ⟨by rfl, ?_⟩) (by assumption) ?_
        rotate_left
        · intro w hSw
          go_simp
          try with_reducible rfl
        try simp only [Act.put, List.getElem_toArray, List.getElem_cons_zero, List.getElem_cons_succ, List.setIfInBounds_toArray, List.set_cons_zero, List.set_cons_succ]
        refine wpAnyH_ready (rs := [10]) (by kernel_rfl) (by simp) ?_
        refine AllReadyH.cons (o := _) rfl (fun K hK => ?_) AllReadyH.nil
        go_simp
        refine hK.out _ _ trivial (fun hHeld => ?_)
        clear hK K
        refine wpAnyH_done (by kernel_rfl) ?_ _
        go_wp2
        go_roundw
        case rel => exact ⟨k + 1, by omega, by go_num, Lib.hid ⟨_, _, HQ.out, hQB⟩⟩
        case measure => simp [intOf]; omega
      · go_simp
        refine Calls.mono (newI _) ?_
        rintro e w2 ⟨rfl, D2, b2⟩
        have hB2 : Below wr.heap.size wr w2 := (by first | exact b2 | exact belT (belDr (belR _)) b2)
        have hcA : w2.cell? ⟨w.heap.size, 3, none⟩ = some (.slice ao k cap) := cell_fr hc3 (Fr.of_below (S := fun _ => False) hB2) id
        have hcB : ∀ ob, (w2.alloc ob).cell? ⟨w.heap.size, 3, none⟩ = some (.slice ao k cap) := fun ob => cell_fr hcA (Fr.alloc (S := fun _ => False) _ _) id
        have hD2 : IsDisk w2 w.heap.size wr.heap.size (.slice none 0 0) D.blank := D2.low (Nat.le_of_lt hgl)
        try go_simp
        refine hK.out _ _ trivial (fun hHeld => ?_)
        clear hK K
        try simp only [Act.put, List.getElem_toArray, List.getElem_cons_zero, List.getElem_cons_succ, List.setIfInBounds_toArray, List.set_cons_zero, List.set_cons_succ]
        refine wpAnyH_ready (rs := [4, 6]) (by kernel_rfl) (by simp) ?_
        refine AllReadyH.cons (o := _) rfl (fun K hK => ?_) (AllReadyH.cons (o := _) rfl (fun K hK => ?_) AllReadyH.nil)
        · go_simp
          refine hK.out _ _ trivial (fun hHeld => ?_)
          clear hK K
          try simp only [Act.put, List.getElem_toArray, List.getElem_cons_zero, List.getElem_cons_succ, List.setIfInBounds_toArray, List.set_cons_zero, List.set_cons_succ]
          refine wpAnyH_ready (rs := [6]) (by kernel_rfl) (by simp) ?_
          refine AllReadyH.cons (o := _) rfl (fun K hK => ?_) AllReadyH.nil
          go_simp
          refine hK.out _ _ trivial (fun hHeld => ?_)
          clear hK K
          try simp only [Act.put, List.getElem_toArray, List.getElem_cons_zero, List.getElem_cons_succ, List.setIfInBounds_toArray, List.set_cons_zero, List.set_cons_succ]
          refine wpAnyH_ready (rs := [7]) (by kernel_rfl) (by simp) ?_
          refine AllReadyH.cons (o := _) rfl (fun K hK => ?_) AllReadyH.nil
          rw [if_pos (by rfl)]
          refine wp_append_pl _ _ 43 rfl w.heap.size 100 j0 _ 1 8 hu65 hj hy0 hy1 hy2 rfl (by decide) (.slice ao k cap) k (hs.map hptr) rfl (HOWN.out _ (by iterate 6 try (first | assumption | exact belR _ | apply belDr | apply belAlloc))) ⟨w2.heap.size, 0, none⟩ 1 1 [.pointer (some ⟨wr.heap.size, 0, none⟩)] rfl rfl (by first | exact news_at rfl rfl | exact fun j u hu => news_at (W := w2) rfl rfl j u hu) (fun u hu => by rw [List.mem_singleton.1 hu]; rfl) (by simp only [maxLen]; omega) (by omega) (by first | (have := hB2.size; simp; omega)) ?_
          intro v' w3 ho hg hpl
          obtain ⟨ao', cap', rfl⟩ := row_shape ho
          obtain ⟨HQ, hQB, hcS, hzS⟩ := HADD.out _ w3 _ (hD2.up (by iterate 6 try (first | exact belR _ | apply belDr | apply belAlloc))) (by iterate 6 try (first | assumption | exact belR _ | apply belDr | apply belAlloc)) hg ho hpl
          have HQ := Lib.hid HQ
          refine hK.out _ _ trivial (fun hHeld => ?_)
          clear hK K
          try simp only [Act.put, List.getElem_toArray, List.getElem_cons_zero, List.getElem_cons_succ, List.setIfInBounds_toArray, List.set_cons_zero, List.set_cons_succ]
          refine wpAnyH_take (i := 8) (oi := _) (v := ?_) rfl (by kernel_rfl) (by kernel_rfl) (by kernel_rfl) (fun _ _ _ h => h) (Or.inl ⟨by rfl, ?_⟩) (by assumption) ?_
          rotate_left
          · intro w hSw
            go_simp
            try with_reducible rfl
          try simp only [Act.put, List.getElem_toArray, List.getElem_cons_zero, List.getElem_cons_succ, List.setIfInBounds_toArray, List.set_cons_zero, List.set_cons_succ]
          refine wpAnyH_take (i := 9) (oi := _) (v := ?_) rfl (by kernel_rfl) (by kernel_rfl) (by kernel_rfl) (fun _ _ _ h => h) (Or.inl ⟨by rfl, ?_⟩) (by assumption) ?_
          rotate_left
          · intro w hSw
            go_simp
            try with_reducible rfl
          try simp only [Act.put, List.getElem_toArray, List.getElem_cons_zero, List.getElem_cons_succ, List.setIfInBounds_toArray, List.set_cons_zero, List.set_cons_succ]
          refine wpAnyH_ready (rs := [10]) (by kernel_rfl) (by simp) ?_
          refine AllReadyH.cons (o := _) rfl (fun K hK => ?_) AllReadyH.nil
          go_simp
          refine hK.out _ _ trivial (fun hHeld => ?_)
          clear hK K
          refine wpAnyH_done (by kernel_rfl) ?_ _
          go_wp2
          go_roundw
          case rel => exact ⟨k + 1, by omega, by go_num, Lib.hid ⟨_, _, HQ.out, hQB⟩⟩
          case measure => simp [intOf]; omega
        · go_simp
          refine hK.out _ _ trivial (fun hHeld => ?_)
          clear hK K
          try simp only [Act.put, List.getElem_toArray, List.getElem_cons_zero, List.getElem_cons_succ, List.setIfInBounds_toArray, List.set_cons_zero, List.set_cons_succ]
          refine wpAnyH_ready (rs := [4]) (by kernel_rfl) (by simp) ?_
          refine AllReadyH.cons (o := _) rfl (fun K hK => ?_) AllReadyH.nil
          go_simp
          refine hK.out _ _ trivial (fun hHeld => ?_)
          clear hK K
          try simp only [Act.put, List.getElem_toArray, List.getElem_cons_zero, List.getElem_cons_succ, List.setIfInBounds_toArray, List.set_cons_zero, List.set_cons_succ]
          refine wpAnyH_ready (rs := [7]) (by kernel_rfl) (by simp) ?_
          refine AllReadyH.cons (o := _) rfl (fun K hK => ?_) AllReadyH.nil
          rw [if_pos (by rfl)]
          refine wp_append_pl _ _ 43 rfl w.heap.size 100 j0 _ 1 8 hu65 hj hy0 hy1 hy2 rfl (by decide) (.slice ao k cap) k (hs.map hptr) rfl (HOWN.out _ (by iterate 6 try (first | assumption | exact belR _ | apply belDr | apply belAlloc))) ⟨w2.heap.size, 0, none⟩ 1 1 [.pointer (some ⟨wr.heap.size, 0, none⟩)] rfl rfl (by first | exact news_at rfl rfl | exact fun j u hu => news_at (W := w2) rfl rfl j u hu) (fun u hu => by rw [List.mem_singleton.1 hu]; rfl) (by simp only [maxLen]; omega) (by omega) (by first | (have := hB2.size; simp; omega)) ?_
          intro v' w3 ho hg hpl
          obtain ⟨ao', cap', rfl⟩ := row_shape ho
          obtain ⟨HQ, hQB, hcS, hzS⟩ := HADD.out _ w3 _ (hD2.up (by iterate 6 try (first | exact belR _ | apply belDr | apply belAlloc))) (by iterate 6 try (first | assumption | exact belR _ | apply belDr | apply belAlloc)) hg ho hpl
          have HQ := Lib.hid HQ
          refine hK.out _ _ trivial (fun hHeld => ?_)
          clear hK K
          try simp only [Act.put, List.getElem_toArray, List.getElem_cons_zero, List.getElem_cons_succ, List.setIfInBounds_toArray, List.set_cons_zero, List.set_cons_succ]
          refine wpAnyH_take (i := 8) (oi := _) (v := ?_) rfl (by kernel_rfl) (by kernel_rfl) (by kernel_rfl) (fun _ _ _ h => h) (Or.inl ⟨by rfl, ?_⟩) (by assumption) ?_
          rotate_left
          · intro w hSw
            go_simp
            try with_reducible rfl
          try simp only [Act.put, List.getElem_toArray, List.getElem_cons_zero, List.getElem_cons_succ, List.setIfInBounds_toArray, List.set_cons_zero, List.set_cons_succ]
          refine wpAnyH_take (i := 9) (oi := _) (v := ?_) rfl (by kernel_rfl) (by kernel_rfl) (by kernel_rfl) (fun _ _ _ h => h) (Or.inl ⟨by rfl, ?_⟩) (by assumption) ?_
          rotate_left
          · intro w hSw
            go_simp
            try with_reducible rfl
          try simp only [Act.put, List.getElem_toArray, List.getElem_cons_zero, List.getElem_cons_succ, List.setIfInBounds_toArray, List.set_cons_zero, List.set_cons_succ]
          refine wpAnyH_ready (rs := [10]) (by kernel_rfl) (by simp) ?_
          refine AllReadyH.cons (o := _) rfl (fun K hK => ?_) AllReadyH.nil
          go_simp
          refine hK.out _ _ trivial (fun hHeld => ?_)
          clear hK K
          refine wpAnyH_done (by kernel_rfl) ?_ _
          go_wp2
          go_roundw
          case rel => exact ⟨k + 1, by omega, by go_num, Lib.hid ⟨_, _, HQ.out, hQB⟩⟩
          case measure => simp [intOf]; omega
    · have hke : k = n := by omega
      subst hke
      clear hlt
      go_wp2
      go_ret2
      exact ⟨rfl, ⟨lv, hs, H1⟩, B1⟩
end Go.Proofs.Ytenjpldinnbcbaa
