/- The walks of wattlelaw09's own helpers: Of, wakes. -/
import Derived.Test.YtgnnkglmlopldaaSupD
import Derived.Test.YtgnnkglmlopldaaPlayP
import Derived.Deep.CutRange
namespace Go.Proofs.Ytgnnkglmlopldaa
open Go.RowKit C
set_option linter.unusedVariables false
set_option linter.unusedSimpArgs false
set_option maxRecDepth 100000
set_option maxHeartbeats 40000000

/-- one cell of a box stored into -/
theorem Box.set {W : World} {g : Nat} {cs : List Value} (h : Box W g cs) (k : Nat) (v : Value) : Box (W.setCell ⟨g, k, none⟩ v) g (cs.set k v) := by
  refine ⟨fun j u hj => ?_, ?_⟩
  · rw [Nat.zero_add]
    by_cases hk : k = j
    · subst hk
      obtain ⟨hlt, he⟩ := List.getElem?_eq_some_iff.1 hj
      rw [List.getElem_set_self] at he
      rw [List.length_set] at hlt
      have hc := h.range k cs[k] (List.getElem?_eq_getElem hlt)
      rw [Nat.zero_add] at hc
      rw [World.cell?_setCell_same _ _ _ hc, he]
    · rw [World.cell?_setCell_other _ _ _ _ (fun e => hk (Addr.mk.inj e).2.1)]
      rw [List.getElem?_set_ne hk] at hj
      have := h.range j u hj
      rwa [Nat.zero_add] at this
  · rw [List.length_set]
    exact World.there_setCells h.there g k [v]
theorem Box.other {W : World} {g k o : Nat} {cs : List Value} {v : Value} (h : Box W g cs) (hne : g ≠ k) : Box (W.setCell ⟨k, o, none⟩ v) g cs := h.fr (Fr.cell ⟨k, o, none⟩ v) (by show ¬ g = k; exact hne)
theorem Box.frees11 {W : World} {g : Nat} {s : Sup} (h : Box W g (sc s)) :
    W.frozen? ⟨g, 0, none⟩ = false ∧ W.frozen? ⟨g, 1, none⟩ = false ∧ W.frozen? ⟨g, 2, none⟩ = false ∧ W.frozen? ⟨g, 3, none⟩ = false ∧ W.frozen? ⟨g, 4, none⟩ = false ∧ W.frozen? ⟨g, 5, none⟩ = false ∧ W.frozen? ⟨g, 6, none⟩ = false ∧ W.frozen? ⟨g, 7, none⟩ = false ∧ W.frozen? ⟨g, 8, none⟩ = false ∧ W.frozen? ⟨g, 9, none⟩ = false ∧ W.frozen? ⟨g, 10, none⟩ = false := by
  have f := fun j (hj : j < 11) => there_frozen h.there (o := j) hj
  exact ⟨f 0 (by decide), f 1 (by decide), f 2 (by decide), f 3 (by decide), f 4 (by decide), f 5 (by decide), f 6 (by decide), f 7 (by decide), f 8 (by decide), f 9 (by decide), f 10 (by decide)⟩
/-- what holds of Of's Super on the way -/
def OfP (w W : World) (g : Nat) (cs : List Value) : Prop := Box W g cs ∧ Box W w.heap.size (sc Sup.zero) ∧ Below w.heap.size w W ∧ w.heap.size < g
theorem OfP.set {w W : World} {g : Nat} {cs : List Value} (h : OfP w W g cs) (k : Nat) (v : Value) : OfP w (W.setCell ⟨g, k, none⟩ v) g (cs.set k v) :=
  ⟨h.1.set k v, h.2.1.other (by have := h.2.2.2; omega), h.2.2.1.setCell (by show w.heap.size ≤ g; have := h.2.2.2; omega) _, h.2.2.2⟩
theorem OfP.below {w W W' : World} {g : Nat} {cs : List Value} (h : OfP w W g cs) (hb : Below W.heap.size W W') : OfP w W' g cs :=
  ⟨h.1.fr (Fr.of_below (S := fun _ => False) hb) id, h.2.1.fr (Fr.of_below (S := fun _ => False) hb) id, belT h.2.2.1 hb, h.2.2.2⟩
def OfI (w W : World) (g : Nat) : Prop := ∃ s : Sup, s.In ∧ OfP w W g (sc s)
def SomeSup (w : World) (e : Ending) (w' : World) : Prop := ∃ s : Sup, e = .returned (sv s) ∧ s.In ∧ Below w.heap.size w w'
theorem of9_any (gen a b win ep out how : Int) (w : World) (h0 : i64b gen) (h1 : i64b a) (h2 : i64b b) (h3 : i64b win) (h4 : i64b ep) (h5 : i64b out) (h6 : i64b how) :
    Calls Try.prog 25 #[.int .i64 gen, .int .i64 a, .int .i64 b, .int .i64 win, .int .i64 ep, .int .i64 out, .int .i64 how] w (SomeSup w) := by
  have HH := Lib.hid (tdiv_in h6)
  have HH6 := Lib.hid h6
  obtain ⟨q1, q2⟩ := h6
  obtain ⟨w0, hw0⟩ : ∃ w0, w0 = w.alloc (.cells (sc Sup.zero).toArray 47) := ⟨_, rfl⟩
  have X0 : Hid (Box w0 w.heap.size (sc Sup.zero)) := by rw [hw0]; exact Box.new _ _ _
  have B0 : Below w.heap.size w w0 := by rw [hw0]; exact belA1 (belR _)
  have z0 : w0.heap.size = w.heap.size + 1 := by rw [hw0]; simp
  have HW0 := Lib.hid hw0
  have Z0 := Lib.hid z0
  clear hw0 z0
  go_enter Try.func25, Try.ntmps25
  go_wp2_with fail
  rw [show w.alloc (.cells #[.int .i64 0, .int .i64 0, .int .i64 0, .int .i64 0, .int .i64 0, .int .i64 0, .int .i64 0, .bool false, .int .i64 0, .int .i64 0, .int .i64 0] 47) = w0 from HW0.out.symm]
  refine Calls.mono (within_ex gen 2147483647 _ (by decide) (by decide) h0) ?_
  rintro e wa ⟨k1, rfl, hk1, rfl⟩
  go_wp2_with fail
  refine Calls.mono (within_ex ep 65536 _ (by decide) (by decide) h4) ?_
  rintro e wa ⟨k2, rfl, hk2, rfl⟩
  go_wp2_with fail
  refine Calls.mono (within_ex out 256 _ (by decide) (by decide) h5) ?_
  rintro e wa ⟨k3, rfl, hk3, rfl⟩
  go_wp2_with fail
  obtain ⟨wB, hwB⟩ : ∃ wB, wB = w0.alloc (.cells (sc ⟨1 + (k1 : Int), Geo.zero, Geo.zero, false, 0, k2, k3⟩).toArray 47) := ⟨_, rfl⟩
  have XB : Box wB w0.heap.size (sc ⟨1 + (k1 : Int), Geo.zero, Geo.zero, false, 0, k2, k3⟩) := by rw [hwB]; exact Box.new _ _ _
  have XR : Box wB w.heap.size (sc Sup.zero) := by rw [hwB]; exact X0.out.fr (Fr.alloc (S := fun _ => False) _ _) id
  have BB : Below w.heap.size w wB := by rw [hwB]; exact belAlloc B0 _
  rw [show w0.alloc (.cells #[.int .i64 (1 + (k1 : Int)), .int .i64 0, .int .i64 0, .int .i64 0, .int .i64 0, .int .i64 0, .int .i64 0, .bool false, .int .i64 0, .int .i64 (k2 : Int), .int .i64 (k3 : Int)] 47) = wB from hwB.symm]
  clear hwB
  refine Calls.mono (pgood_any a _ h1) ?_
  rintro e w1 ⟨l, d, c, rfl, hok, b1⟩
  have hgi := Geo.ok_in hok
  have XB1 := XB.fr (Fr.of_below (S := fun _ => False) b1) id
  have XR1 := XR.fr (Fr.of_below (S := fun _ => False) b1) id
  have BB1 := belT BB b1
  obtain ⟨c0, c1, c2, c3, c4, c5, c6, c7, c8, c9, c10⟩ := XB1.cells11
  obtain ⟨f0, f1, f2, f3, f4, f5, f6, f7, f8, f9, f10⟩ := XB1.frees11
  go_wp2_with fail
  have OI : OfI w (((w1.setCell ⟨w0.heap.size, 1, none⟩ (.int .i64 l)).setCell ⟨w0.heap.size, 2, none⟩ (.int .i64 d)).setCell ⟨w0.heap.size, 3, none⟩ (.int .i64 c)) w0.heap.size := by
    have z := Z0.out
    have P1 : OfP w w1 w0.heap.size _ := ⟨XB1, XR1, BB1, by omega⟩
    refine ⟨⟨1 + (k1 : Int), ⟨l, d, c⟩, Geo.zero, false, 0, k2, k3⟩, ⟨⟨?_, ?_⟩, hgi, Geo.zero_in, ⟨?_, ?_⟩, ⟨?_, ?_⟩, ⟨?_, ?_⟩⟩, ((P1.set 1 _).set 2 _).set 3 _⟩ <;> dsimp only <;> omega
  clear c0 c1 c2 c3 c4 c5 c6 c7 c8 c9 c10 f0 f1 f2 f3 f4 f5 f6 f7 f8 f9 f10
  obtain ⟨W2, hW2⟩ : ∃ W2, W2 = (((w1.setCell ⟨w0.heap.size, 1, none⟩ (.int .i64 l)).setCell ⟨w0.heap.size, 2, none⟩ (.int .i64 d)).setCell ⟨w0.heap.size, 3, none⟩ (.int .i64 c)) := ⟨_, rfl⟩
  rw [← hW2] at OI ⊢
  have OH := Lib.hid OI
  clear hk1 hk2 hk3 hW2 XB1 XR1 BB1 b1 XB XR BB OI hgi hok
  refine Calls.mono (within_ex how 2 _ (by decide) (by decide) HH6.out) ?_
  rintro e wa ⟨k4, rfl, hk4, rfl⟩
  obtain ⟨bk, hbk⟩ : ∃ bk, ((k4 : Int) == 1) = bk := ⟨_, rfl⟩
  go_upto_if 34 with (fail)
  clear hbk
  go_cut [] from 35 (fun W => Hid (OfI w W w0.heap.size))
  case first =>
    obtain ⟨s, hin, P⟩ := OH.out
    cases bk with
    | true =>
      go_wp2_with fail
      refine Calls.mono (pair_any a b _ h1 h2) ?_
      rintro e w3 ⟨l1, d1, e1, l2, d2, e2, rfl, ha, hb, b3⟩
      have P3 := P.below b3
      obtain ⟨c0, c1, c2, c3, c4, c5, c6, c7, c8, c9, c10⟩ := P3.1.cells11
      obtain ⟨f0, f1, f2, f3, f4, f5, f6, f7, f8, f9, f10⟩ := P3.1.frees11
      go_wp2_with fail
      refine Calls.mono (within_ex win 17 _ (by decide) (by decide) h3) ?_
      rintro e wa ⟨k5, rfl, hk5, rfl⟩
      go_wp2_with fail
      have P8 := (((((((P3.set 1 (.int .i64 l1)).set 2 (.int .i64 d1)).set 3 (.int .i64 e1)).set 4 (.int .i64 l2)).set 5 (.int .i64 d2)).set 6 (.int .i64 e2)).set 7 (.bool true)).set 8 (.int .i64 (k5 : Int))
      have e8 : ((((((((sc s).set 1 (.int .i64 l1)).set 2 (.int .i64 d1)).set 3 (.int .i64 e1)).set 4 (.int .i64 l2)).set 5 (.int .i64 d2)).set 6 (.int .i64 e2)).set 7 (.bool true)).set 8 (.int .i64 (k5 : Int)) = sc ⟨s.gen, ⟨l1, d1, e1⟩, ⟨l2, d2, e2⟩, true, k5, s.ep, s.out⟩ := rfl
      rw [e8] at P8
      have O8 := Lib.hid (show OfI _ _ _ from ⟨⟨s.gen, ⟨l1, d1, e1⟩, ⟨l2, d2, e2⟩, true, k5, s.ep, s.out⟩, ⟨hin.gen, ha, hb, ⟨by dsimp only; omega, by dsimp only; omega⟩, hin.ep, hin.out⟩, P8⟩)
      clear P8 e8 P3 c0 c1 c2 c3 c4 c5 c6 c7 c8 c9 c10 f0 f1 f2 f3 f4 f5 f6 f7 f8 f9 f10 P hin ha hb b3
      go_meet
      case rel => exact O8
    | false =>
      go_wp2_with fail
      have O8 := Lib.hid (show OfI _ _ _ from ⟨s, hin, P⟩)
      go_meet
      case rel => exact O8
  have OH := hcut
  clear hcut
  go_wp2_with fail
  refine Calls.mono (within_ex (how.tdiv 2) 20 _ (by decide) (by decide) (HH.out _ (by decide))) ?_
  rintro e wa ⟨k6, rfl, hk6, rfl⟩
  obtain ⟨b14, hb14⟩ : ∃ bk, ((k6 : Int) == 14) = bk := ⟨_, rfl⟩
  obtain ⟨b15, hb15⟩ : ∃ bk, ((k6 : Int) == 15) = bk := ⟨_, rfl⟩
  obtain ⟨b16, hb16⟩ : ∃ bk, ((k6 : Int) == 16) = bk := ⟨_, rfl⟩
  obtain ⟨b17, hb17⟩ : ∃ bk, ((k6 : Int) == 17) = bk := ⟨_, rfl⟩
  obtain ⟨b18, hb18⟩ : ∃ bk, ((k6 : Int) == 18) = bk := ⟨_, rfl⟩
  obtain ⟨b19, hb19⟩ : ∃ bk, ((k6 : Int) == 19) = bk := ⟨_, rfl⟩
  go_upto_if 52 with (fail)
  clear q1 q2
  obtain ⟨s, hin, P⟩ := OH.out
  cases b14 with
  | true =>
    obtain ⟨c0, c1, c2, c3, c4, c5, c6, c7, c8, c9, c10⟩ := P.1.cells11
    obtain ⟨f0, f1, f2, f3, f4, f5, f6, f7, f8, f9, f10⟩ := P.1.frees11
    have P8 := Lib.hid (P.set 0 (.int .i64 gen))
    have HI : Hid (Sup.In ⟨gen, s.a, s.b, s.run, s.win, s.ep, s.out⟩) := ⟨h0, hin.a, hin.b, hin.win, hin.ep, hin.out⟩
    clear hin
    go_wp2_with (refine wpList_store_mid rfl 47 (.tmp 14) (.tmp 82) rfl w.heap.size 0 (sc ⟨gen, s.a, s.b, s.run, s.win, s.ep, s.out⟩).toArray rfl rfl (show World.there _ _ 0 11 from P8.out.2.1.there) (show _ = some 11 from super_info) (sc_one _) ?_; have XF := P8.out.2.1.store (cs' := sc ⟨gen, s.a, s.b, s.run, s.win, s.ep, s.out⟩) rfl; have BF := Fr.below (B := w.heap.size) P8.out.2.2.1 (Fr.cells _ w.heap.size 0 (sc ⟨gen, s.a, s.b, s.run, s.win, s.ep, s.out⟩)) P8.out.2.2.1.size (fun i hi => by rw [hi]; exact Nat.le_refl _); have hsame : (sc ⟨gen, s.a, s.b, s.run, s.win, s.ep, s.out⟩).toArray.toList = sc ⟨gen, s.a, s.b, s.run, s.win, s.ep, s.out⟩ := rfl; rw [hsame]; clear hsame; clear c0 c1 c2 c3 c4 c5 c6 c7 c8 c9 c10 f0 f1 f2 f3 f4 f5 f6 f7 f8 f9 f10; obtain ⟨f0, f1, f2, f3, f4, f5, f6, f7, f8, f9, f10⟩ := XF.cells11; generalize World.setCells _ w.heap.size 0 (sc ⟨gen, s.a, s.b, s.run, s.win, s.ep, s.out⟩) = wF at *)
    exact bodyPost_ret (v := sv ⟨gen, s.a, s.b, s.run, s.win, s.ep, s.out⟩) (by simp [results, Try.results25, go_sem, sv, f0, f1, f2, f3, f4, f5, f6, f7, f8, f9, f10]) rfl ⟨⟨gen, s.a, s.b, s.run, s.win, s.ep, s.out⟩, rfl, HI.out, BF⟩
  | false =>
    cases b15 with
    | true =>
      go_wp2_with fail
      refine Calls.mono (pgeom_any a _ h1) ?_
      rintro e w3 ⟨l1, d1, e1, rfl, hg, b3⟩
      have P3 := P.below b3
      obtain ⟨c0, c1, c2, c3, c4, c5, c6, c7, c8, c9, c10⟩ := P3.1.cells11
      obtain ⟨f0, f1, f2, f3, f4, f5, f6, f7, f8, f9, f10⟩ := P3.1.frees11
      have P8 := Lib.hid (((P3.set 1 (.int .i64 l1)).set 2 (.int .i64 d1)).set 3 (.int .i64 e1))
      have HI : Hid (Sup.In ⟨s.gen, ⟨l1, d1, e1⟩, s.b, s.run, s.win, s.ep, s.out⟩) := ⟨hin.gen, hg, hin.b, hin.win, hin.ep, hin.out⟩
      clear hin
      go_wp2_with (refine wpList_store_mid rfl 47 (.tmp 14) (.tmp 82) rfl w.heap.size 0 (sc ⟨s.gen, ⟨l1, d1, e1⟩, s.b, s.run, s.win, s.ep, s.out⟩).toArray rfl rfl (show World.there _ _ 0 11 from P8.out.2.1.there) (show _ = some 11 from super_info) (sc_one _) ?_; have XF := P8.out.2.1.store (cs' := sc ⟨s.gen, ⟨l1, d1, e1⟩, s.b, s.run, s.win, s.ep, s.out⟩) rfl; have BF := Fr.below (B := w.heap.size) P8.out.2.2.1 (Fr.cells _ w.heap.size 0 (sc ⟨s.gen, ⟨l1, d1, e1⟩, s.b, s.run, s.win, s.ep, s.out⟩)) P8.out.2.2.1.size (fun i hi => by rw [hi]; exact Nat.le_refl _); have hsame : (sc ⟨s.gen, ⟨l1, d1, e1⟩, s.b, s.run, s.win, s.ep, s.out⟩).toArray.toList = sc ⟨s.gen, ⟨l1, d1, e1⟩, s.b, s.run, s.win, s.ep, s.out⟩ := rfl; rw [hsame]; clear hsame; clear c0 c1 c2 c3 c4 c5 c6 c7 c8 c9 c10 f0 f1 f2 f3 f4 f5 f6 f7 f8 f9 f10; obtain ⟨f0, f1, f2, f3, f4, f5, f6, f7, f8, f9, f10⟩ := XF.cells11; generalize World.setCells _ w.heap.size 0 (sc ⟨s.gen, ⟨l1, d1, e1⟩, s.b, s.run, s.win, s.ep, s.out⟩) = wF at *)
      exact bodyPost_ret (v := sv ⟨s.gen, ⟨l1, d1, e1⟩, s.b, s.run, s.win, s.ep, s.out⟩) (by simp [results, Try.results25, go_sem, sv, f0, f1, f2, f3, f4, f5, f6, f7, f8, f9, f10]) rfl ⟨⟨s.gen, ⟨l1, d1, e1⟩, s.b, s.run, s.win, s.ep, s.out⟩, rfl, HI.out, BF⟩
    | false =>
      cases b16 with
      | true =>
        go_wp2_with fail
        refine Calls.mono (pgeom_any b _ h2) ?_
        rintro e w3 ⟨l1, d1, e1, rfl, hg, b3⟩
        have P3 := P.below b3
        obtain ⟨c0, c1, c2, c3, c4, c5, c6, c7, c8, c9, c10⟩ := P3.1.cells11
        obtain ⟨f0, f1, f2, f3, f4, f5, f6, f7, f8, f9, f10⟩ := P3.1.frees11
        have P8 := Lib.hid (((P3.set 4 (.int .i64 l1)).set 5 (.int .i64 d1)).set 6 (.int .i64 e1))
        have HI : Hid (Sup.In ⟨s.gen, s.a, ⟨l1, d1, e1⟩, s.run, s.win, s.ep, s.out⟩) := ⟨hin.gen, hin.a, hg, hin.win, hin.ep, hin.out⟩
        clear hin
        go_wp2_with (refine wpList_store_mid rfl 47 (.tmp 14) (.tmp 82) rfl w.heap.size 0 (sc ⟨s.gen, s.a, ⟨l1, d1, e1⟩, s.run, s.win, s.ep, s.out⟩).toArray rfl rfl (show World.there _ _ 0 11 from P8.out.2.1.there) (show _ = some 11 from super_info) (sc_one _) ?_; have XF := P8.out.2.1.store (cs' := sc ⟨s.gen, s.a, ⟨l1, d1, e1⟩, s.run, s.win, s.ep, s.out⟩) rfl; have BF := Fr.below (B := w.heap.size) P8.out.2.2.1 (Fr.cells _ w.heap.size 0 (sc ⟨s.gen, s.a, ⟨l1, d1, e1⟩, s.run, s.win, s.ep, s.out⟩)) P8.out.2.2.1.size (fun i hi => by rw [hi]; exact Nat.le_refl _); have hsame : (sc ⟨s.gen, s.a, ⟨l1, d1, e1⟩, s.run, s.win, s.ep, s.out⟩).toArray.toList = sc ⟨s.gen, s.a, ⟨l1, d1, e1⟩, s.run, s.win, s.ep, s.out⟩ := rfl; rw [hsame]; clear hsame; clear c0 c1 c2 c3 c4 c5 c6 c7 c8 c9 c10 f0 f1 f2 f3 f4 f5 f6 f7 f8 f9 f10; obtain ⟨f0, f1, f2, f3, f4, f5, f6, f7, f8, f9, f10⟩ := XF.cells11; generalize World.setCells _ w.heap.size 0 (sc ⟨s.gen, s.a, ⟨l1, d1, e1⟩, s.run, s.win, s.ep, s.out⟩) = wF at *)
        exact bodyPost_ret (v := sv ⟨s.gen, s.a, ⟨l1, d1, e1⟩, s.run, s.win, s.ep, s.out⟩) (by simp [results, Try.results25, go_sem, sv, f0, f1, f2, f3, f4, f5, f6, f7, f8, f9, f10]) rfl ⟨⟨s.gen, s.a, ⟨l1, d1, e1⟩, s.run, s.win, s.ep, s.out⟩, rfl, HI.out, BF⟩
      | false =>
        cases b17 with
        | true =>
          obtain ⟨c0, c1, c2, c3, c4, c5, c6, c7, c8, c9, c10⟩ := P.1.cells11
          obtain ⟨f0, f1, f2, f3, f4, f5, f6, f7, f8, f9, f10⟩ := P.1.frees11
          have P8 := Lib.hid (P.set 8 (.int .i64 win))
          have HI : Hid (Sup.In ⟨s.gen, s.a, s.b, s.run, win, s.ep, s.out⟩) := ⟨hin.gen, hin.a, hin.b, h3, hin.ep, hin.out⟩
          clear hin
          go_wp2_with (refine wpList_store_mid rfl 47 (.tmp 14) (.tmp 82) rfl w.heap.size 0 (sc ⟨s.gen, s.a, s.b, s.run, win, s.ep, s.out⟩).toArray rfl rfl (show World.there _ _ 0 11 from P8.out.2.1.there) (show _ = some 11 from super_info) (sc_one _) ?_; have XF := P8.out.2.1.store (cs' := sc ⟨s.gen, s.a, s.b, s.run, win, s.ep, s.out⟩) rfl; have BF := Fr.below (B := w.heap.size) P8.out.2.2.1 (Fr.cells _ w.heap.size 0 (sc ⟨s.gen, s.a, s.b, s.run, win, s.ep, s.out⟩)) P8.out.2.2.1.size (fun i hi => by rw [hi]; exact Nat.le_refl _); have hsame : (sc ⟨s.gen, s.a, s.b, s.run, win, s.ep, s.out⟩).toArray.toList = sc ⟨s.gen, s.a, s.b, s.run, win, s.ep, s.out⟩ := rfl; rw [hsame]; clear hsame; clear c0 c1 c2 c3 c4 c5 c6 c7 c8 c9 c10 f0 f1 f2 f3 f4 f5 f6 f7 f8 f9 f10; obtain ⟨f0, f1, f2, f3, f4, f5, f6, f7, f8, f9, f10⟩ := XF.cells11; generalize World.setCells _ w.heap.size 0 (sc ⟨s.gen, s.a, s.b, s.run, win, s.ep, s.out⟩) = wF at *)
          exact bodyPost_ret (v := sv ⟨s.gen, s.a, s.b, s.run, win, s.ep, s.out⟩) (by simp [results, Try.results25, go_sem, sv, f0, f1, f2, f3, f4, f5, f6, f7, f8, f9, f10]) rfl ⟨⟨s.gen, s.a, s.b, s.run, win, s.ep, s.out⟩, rfl, HI.out, BF⟩
        | false =>
          cases b18 with
          | true =>
            obtain ⟨c0, c1, c2, c3, c4, c5, c6, c7, c8, c9, c10⟩ := P.1.cells11
            obtain ⟨f0, f1, f2, f3, f4, f5, f6, f7, f8, f9, f10⟩ := P.1.frees11
            have P8 := Lib.hid ((P.set 9 (.int .i64 ep)).set 10 (.int .i64 out))
            have HI : Hid (Sup.In ⟨s.gen, s.a, s.b, s.run, s.win, ep, out⟩) := ⟨hin.gen, hin.a, hin.b, hin.win, h4, h5⟩
            clear hin
            go_wp2_with (refine wpList_store_mid rfl 47 (.tmp 14) (.tmp 82) rfl w.heap.size 0 (sc ⟨s.gen, s.a, s.b, s.run, s.win, ep, out⟩).toArray rfl rfl (show World.there _ _ 0 11 from P8.out.2.1.there) (show _ = some 11 from super_info) (sc_one _) ?_; have XF := P8.out.2.1.store (cs' := sc ⟨s.gen, s.a, s.b, s.run, s.win, ep, out⟩) rfl; have BF := Fr.below (B := w.heap.size) P8.out.2.2.1 (Fr.cells _ w.heap.size 0 (sc ⟨s.gen, s.a, s.b, s.run, s.win, ep, out⟩)) P8.out.2.2.1.size (fun i hi => by rw [hi]; exact Nat.le_refl _); have hsame : (sc ⟨s.gen, s.a, s.b, s.run, s.win, ep, out⟩).toArray.toList = sc ⟨s.gen, s.a, s.b, s.run, s.win, ep, out⟩ := rfl; rw [hsame]; clear hsame; clear c0 c1 c2 c3 c4 c5 c6 c7 c8 c9 c10 f0 f1 f2 f3 f4 f5 f6 f7 f8 f9 f10; obtain ⟨f0, f1, f2, f3, f4, f5, f6, f7, f8, f9, f10⟩ := XF.cells11; generalize World.setCells _ w.heap.size 0 (sc ⟨s.gen, s.a, s.b, s.run, s.win, ep, out⟩) = wF at *)
            exact bodyPost_ret (v := sv ⟨s.gen, s.a, s.b, s.run, s.win, ep, out⟩) (by simp [results, Try.results25, go_sem, sv, f0, f1, f2, f3, f4, f5, f6, f7, f8, f9, f10]) rfl ⟨⟨s.gen, s.a, s.b, s.run, s.win, ep, out⟩, rfl, HI.out, BF⟩
          | false =>
            cases b19 with
            | true =>
              obtain ⟨c0, c1, c2, c3, c4, c5, c6, c7, c8, c9, c10⟩ := P.1.cells11
              obtain ⟨f0, f1, f2, f3, f4, f5, f6, f7, f8, f9, f10⟩ := P.1.frees11
              have P8 := Lib.hid (P.set 7 (.bool (!s.run)))
              have HI : Hid (Sup.In ⟨s.gen, s.a, s.b, !s.run, s.win, s.ep, s.out⟩) := ⟨hin.gen, hin.a, hin.b, hin.win, hin.ep, hin.out⟩
              clear hin
              go_wp2_with (refine wpList_store_mid rfl 47 (.tmp 14) (.tmp 82) rfl w.heap.size 0 (sc ⟨s.gen, s.a, s.b, !s.run, s.win, s.ep, s.out⟩).toArray rfl rfl (show World.there _ _ 0 11 from P8.out.2.1.there) (show _ = some 11 from super_info) (sc_one _) ?_; have XF := P8.out.2.1.store (cs' := sc ⟨s.gen, s.a, s.b, !s.run, s.win, s.ep, s.out⟩) rfl; have BF := Fr.below (B := w.heap.size) P8.out.2.2.1 (Fr.cells _ w.heap.size 0 (sc ⟨s.gen, s.a, s.b, !s.run, s.win, s.ep, s.out⟩)) P8.out.2.2.1.size (fun i hi => by rw [hi]; exact Nat.le_refl _); have hsame : (sc ⟨s.gen, s.a, s.b, !s.run, s.win, s.ep, s.out⟩).toArray.toList = sc ⟨s.gen, s.a, s.b, !s.run, s.win, s.ep, s.out⟩ := rfl; rw [hsame]; clear hsame; clear c0 c1 c2 c3 c4 c5 c6 c7 c8 c9 c10 f0 f1 f2 f3 f4 f5 f6 f7 f8 f9 f10; obtain ⟨f0, f1, f2, f3, f4, f5, f6, f7, f8, f9, f10⟩ := XF.cells11; generalize World.setCells _ w.heap.size 0 (sc ⟨s.gen, s.a, s.b, !s.run, s.win, s.ep, s.out⟩) = wF at *)
              exact bodyPost_ret (v := sv ⟨s.gen, s.a, s.b, !s.run, s.win, s.ep, s.out⟩) (by simp [results, Try.results25, go_sem, sv, f0, f1, f2, f3, f4, f5, f6, f7, f8, f9, f10]) rfl ⟨⟨s.gen, s.a, s.b, !s.run, s.win, s.ep, s.out⟩, rfl, HI.out, BF⟩
            | false =>
              obtain ⟨c0, c1, c2, c3, c4, c5, c6, c7, c8, c9, c10⟩ := P.1.cells11
              obtain ⟨f0, f1, f2, f3, f4, f5, f6, f7, f8, f9, f10⟩ := P.1.frees11
              have P8 := Lib.hid P
              have HI : Hid (Sup.In ⟨s.gen, s.a, s.b, s.run, s.win, s.ep, s.out⟩) := ⟨hin.gen, hin.a, hin.b, hin.win, hin.ep, hin.out⟩
              clear hin
              go_wp2_with (refine wpList_store_mid rfl 47 (.tmp 14) (.tmp 82) rfl w.heap.size 0 (sc ⟨s.gen, s.a, s.b, s.run, s.win, s.ep, s.out⟩).toArray rfl rfl (show World.there _ _ 0 11 from P8.out.2.1.there) (show _ = some 11 from super_info) (sc_one _) ?_; have XF := P8.out.2.1.store (cs' := sc ⟨s.gen, s.a, s.b, s.run, s.win, s.ep, s.out⟩) rfl; have BF := Fr.below (B := w.heap.size) P8.out.2.2.1 (Fr.cells _ w.heap.size 0 (sc ⟨s.gen, s.a, s.b, s.run, s.win, s.ep, s.out⟩)) P8.out.2.2.1.size (fun i hi => by rw [hi]; exact Nat.le_refl _); have hsame : (sc ⟨s.gen, s.a, s.b, s.run, s.win, s.ep, s.out⟩).toArray.toList = sc ⟨s.gen, s.a, s.b, s.run, s.win, s.ep, s.out⟩ := rfl; rw [hsame]; clear hsame; clear c0 c1 c2 c3 c4 c5 c6 c7 c8 c9 c10 f0 f1 f2 f3 f4 f5 f6 f7 f8 f9 f10; obtain ⟨f0, f1, f2, f3, f4, f5, f6, f7, f8, f9, f10⟩ := XF.cells11; generalize World.setCells _ w.heap.size 0 (sc ⟨s.gen, s.a, s.b, s.run, s.win, s.ep, s.out⟩) = wF at *)
              exact bodyPost_ret (v := sv ⟨s.gen, s.a, s.b, s.run, s.win, s.ep, s.out⟩) (by simp [results, Try.results25, go_sem, sv, f0, f1, f2, f3, f4, f5, f6, f7, f8, f9, f10]) rfl ⟨⟨s.gen, s.a, s.b, s.run, s.win, s.ep, s.out⟩, rfl, HI.out, BF⟩
end Go.Proofs.Ytgnnkglmlopldaa
