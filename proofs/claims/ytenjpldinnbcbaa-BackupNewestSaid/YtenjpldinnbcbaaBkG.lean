/- The walks of backup.of and Get. -/
import Derived.Test.YtenjpldinnbcbaaBkQ
import Derived.Test.YtenjpldinnbcbaaBEq
namespace Go.Proofs.Ytenjpldinnbcbaa
open Go.RowKit
set_option linter.unusedVariables false
set_option linter.unusedSimpArgs false
set_option maxRecDepth 100000
set_option maxHeartbeats 2000000

namespace B
/-- power; its disks are as disks are -/
structure Lv (b : Bn) : Prop where
  down : b.down = false
  ok : ∀ d ∈ b.ds, D.Ok d
theorem Up.lv {b : Bn} (h : Up b) : Lv b := ⟨h.down, h.ok⟩
def lookB (b : Bn) (i a : Nat) : List Nat := D.look (b.ds.getD i D.blank) a
def failB (b : Bn) (i : Nat) : Bool := (b.ds.getD i D.blank).f
theorem Lv.look {b : Bn} (h : Lv b) {i a : Nat} (hi : i < b.ds.length) (ha : a < 52) : (lookB b i a).length = 32 ∧ ∀ x ∈ lookB b i a, x < 256 := by
  unfold lookB
  rw [show b.ds.getD i D.blank = b.ds[i] by simp [List.getD, hi]]
  exact D.look_ok (h.ok _ (List.getElem_mem hi)) ha
theorem Lv.read {b : Bn} (h : Lv b) {i a : Nat} (hi : i < b.ds.length) (ha : a < 52) : readE b (i : Int) (a : Int) = (if failB b i then 5 else 0) ∧ readL b (i : Int) (a : Int) = (if failB b i then [] else lookB b i a) := by
  have hk := dk_nat (List.getElem?_eq_getElem hi)
  have hg : b.ds.getD i D.blank = b.ds[i] := by simp [List.getD, hi]
  have hm := may_ok h.down hi
  unfold readE readL failB lookB
  rw [hm, hk, hg]
  have h0 : ¬ ((0 : Int) ≠ 0) := by decide
  rw [if_neg h0, if_neg h0]
  unfold D.readL D.may
  cases hf : (b.ds[i]).f
  · rw [if_neg (by decide), if_neg (by omega)]
    exact ⟨rfl, rfl⟩
  · exact ⟨rfl, rfl⟩
def manyB (b : Bn) (i : Nat) : Nat := (lookB b i 6).getD 7 0
def ofL (b : Bn) (i : Nat) : List (List Nat) := (List.range (manyB b i)).map (fun a => lookB b i (7 + a))
def ofOk (b : Bn) (i e x : Nat) : Bool := !failB b i && decide (manyB b i ≤ 28) && decide (lookB b i 6 = headL e x (ofL b i))
def getO (b : Bn) (lv : List Bool) (e x : Nat) (n : Nat) : Option Nat := (List.range n).find? (fun i => live1 lv i && ofOk b i e x)
theorem getO_succ_yes {b : Bn} {lv : List Bool} {e x n N : Nat} (h0 : getO b lv e x n = none) (h : (live1 lv n && ofOk b n e x) = true) (hN : n < N) : getO b lv e x N = some n := by
  obtain ⟨k, rfl⟩ : ∃ k, N = n + 1 + k := ⟨N - n - 1, by omega⟩
  unfold getO at *
  rw [List.range_add, List.find?_append, List.range_succ, List.find?_append, h0]
  simp only [Option.none_or]
  rw [List.find?_cons, h]
  rfl
theorem getO_succ_no {b : Bn} {lv : List Bool} {e x n : Nat} (h0 : getO b lv e x n = none) (h : (live1 lv n && ofOk b n e x) = false) : getO b lv e x (n + 1) = none := by
  unfold getO at *
  rw [List.range_succ, List.find?_append, h0]
  simp only [Option.none_or]
  rw [List.find?_cons, h]
  rfl
end B
theorem bread_lv (w : World) (base g : Nat) (lv : Value) (hs : List (Nat × Value)) (b : B.Bn) (i a : Nat) (h : IsBench w base g lv hs b) (hL : B.Lv b) (hi : i < b.ds.length) (ha : a < 52) :
    Calls Try.prog 27 #[.pointer (some ⟨g, 0, none⟩), .int .i64 (i : Int), .int .i64 (a : Int)] w fun e w' => ∃ v, e = .returned (.tuple #[v, .int .i64 (if B.failB b i then 5 else 0)]) ∧ Own w' w.heap.size v (if B.failB b i then [] else B.lookB b i a) ∧ Below w.heap.size w w' := by
  obtain ⟨e1, e2⟩ := hL.read hi ha
  have := bread_any w base g lv hs b (i : Int) (a : Int) h
  rw [e1, e2] at this
  exact this
attribute [local irreducible] Go.Calls Byt Own Parts PA BA Bools OwnD
theorem bkof_any (w : World) (base g : Nat) (lv : Value) (hs : List (Nat × Value)) (b : B.Bn) (i e x : Nat) (h : IsBench w base g lv hs b) (hL : B.Lv b) (hi : i < b.ds.length) (hn : b.ds.length ≤ 8) (he : e < 65536) (hx : x ≤ 16) :
    Calls Try.prog 59 #[.pointer (some ⟨g, 0, none⟩), .int .i64 (i : Int), .int .i64 (e : Int), .int .i64 (x : Int)] w fun r w' => ∃ v, r = .returned (.tuple #[v, .bool (B.ofOk b i e x)]) ∧ (B.ofOk b i e x = true → OwnD w' w.heap.size v (B.ofL b i) (fun _ => False)) ∧ Below w.heap.size w w' := by
  obtain ⟨j0, hj, hy0, hy1, hy2⟩ := info_parts parts_info
  have HB := Lib.hid h
  have HRD := Lib.hid (fun (X : World) (a : Nat) (hX : Below w.heap.size w X) (ha : a < 52) => bread_lv X base g lv hs b i a (h.up hX) hL hi ha)
  have HEX := Lib.hid (And.intro he hx)
  by_cases hf : B.failB b i = true
  · have HOK : Hid (B.ofOk b i e x = false) := by show _ = _; unfold B.ofOk; rw [hf]; rfl
    rw [HOK.out]
    rw [hf] at HRD
    clear h hL hi hn he hx hf
    go_enter Try.func59, Try.ntmps59
    go_wp2_with fail
    refine Calls.mono (HRD.out _ 6 (belR _) (by decide)) ?_
    rintro r w1 ⟨v, rfl, O1, b1⟩
    go_wp2
    go_ret2
    exact ⟨_, rfl, by simp, b1⟩
  · have hf0 : B.failB b i = false := by simpa using hf
    rw [hf0] at HRD
    obtain ⟨l6, l6b⟩ := hL.look hi (a := 6) (by decide)
    obtain ⟨M, hM⟩ : ∃ M, M = B.manyB b i := ⟨_, rfl⟩
    have hMx : (B.lookB b i 6)[7]? = some M := by
      rw [hM]; unfold B.manyB
      rw [List.getD, List.getElem?_eq_getElem (by omega)]; rfl
    have hM8 : M < 256 := l6b M (List.mem_of_getElem? hMx)
    have HM := Lib.hid hM
    have HMX := Lib.hid hMx
    have HL6 := Lib.hid l6
    have HF := Lib.hid hf0
    have HLK := Lib.hid (fun a (ha : a < 52) => (hL.look hi (a := a) ha).1)
    clear h hL hn he hx hf hf0 hMx l6 l6b hM
    by_cases hbig : 28 < M
    · have HOK : Hid (B.ofOk b i e x = false) := by
        show _ = _; unfold B.ofOk; rw [← HM.out, decide_eq_false (show ¬ M ≤ 28 by omega)]; simp
      rw [HOK.out]
      have hbI : (M : Int) > 28 := by omega
      go_enter Try.func59, Try.ntmps59
      go_wp2_with fail
      refine Calls.mono (HRD.out _ 6 (belR _) (by decide)) ?_
      rintro r w1 ⟨v, rfl, O1, b1⟩
      have O1 : Own w1 w.heap.size v (B.lookB b i 6) := O1
      obtain ⟨a1, k1, rfl, _, _⟩ := O1.byt.shapeN HL6.out
      obtain ⟨bb, ob, y, rfl, hcy, hyk, hy8⟩ := O1.byt.get (k := 7) (by decide)
      have hyM : y = M := Option.some.inj (hyk.out.symm.trans HMX.out)
      rw [hyM] at hcy
      clear hyM hyk hy8
      go_wp2
      go_ret2
      exact ⟨_, rfl, by simp, b1⟩
    · have hbI : ¬ (M : Int) > 28 := by omega
      have hbB : decide ((M : Int) > 28) = false := decide_eq_false hbI
      have hbP : ((M : Int) > 28) = False := eq_false hbI
      have hM28 : M ≤ 28 := by omega
      obtain ⟨C, hC⟩ : ∃ C : Nat → List (List Nat), C = fun k => (List.range k).map (fun a => B.lookB b i (7 + a)) := ⟨_, rfl⟩
      have HCM : Hid (C M = B.ofL b i) := by show _ = _; rw [hC, HM.out]; rfl
      have HCS : Hid (∀ k, C (k + 1) = C k ++ [B.lookB b i (7 + k)]) := fun k => by rw [hC]; show List.map _ (List.range (k + 1)) = _; rw [List.range_succ, List.map_append]; rfl
      have HCL : Hid (∀ k, (C k).length = k) := fun k => by rw [hC]; simp
      have HC0 : Hid (C 0 = []) := by show _ = _; rw [hC]; rfl
      clear hC hbig
      go_enter Try.func59, Try.ntmps59
      go_wp2_with fail
      refine Calls.mono (HRD.out _ 6 (belR _) (by decide)) ?_
      rintro r w1 ⟨v, rfl, O1, b1⟩
      have O1 : Own w1 w.heap.size v (B.lookB b i 6) := O1
      obtain ⟨a1, k1, rfl, _, _⟩ := O1.byt.shapeN HL6.out
      obtain ⟨bb, ob, y, rfl, hcy, hyk, hy8⟩ := O1.byt.get (k := 7) (by decide)
      have hyM : y = M := Option.some.inj (hyk.out.symm.trans HMX.out)
      rw [hyM] at hcy
      have O1h := Lib.hid O1
      have HR0 : Hid (OwnD w1 w1.heap.size (.slice none 0 0) (C 0) (fun _ => False)) := by rw [HC0.out]; exact OwnD.nil _ _ _
      clear hyM hyk hy8 O1
      go_wp2
      go_loopw [13, 32] (fun d k X => ∃ j : Nat, j ≤ M ∧ k = .int .i64 j ∧ Hid (OwnD X w1.heap.size d (C j) (fun _ => False)) ∧ Below w1.heap.size w1 X) (fun _ k _ => M - (intOf k).toNat)
      case atStart => exact ⟨0, Nat.zero_le _, rfl, HR0, belR _⟩
      case round =>
        obtain ⟨j, hjM, rfl, hO, BX⟩ := hrel
        by_cases hlt : j < M
        · obtain ⟨ad, cd, hde, _, _⟩ := hO.out.shape
          rw [HCL.out] at hde
          subst hde
          have hjI : (j : Int) < (M : Int) := by omega
          have hj7 : IntKind.i64.wrap (7 + (j : Int)) = ((7 + j : Nat) : Int) := by rw [IntKind.wrap_i64]; omega
          have hj1' : IntKind.i64.wrap ((j : Int) + 1) = ((j + 1 : Nat) : Int) := by rw [IntKind.wrap_i64]; omega
          have HRJ := Lib.hid (HRD.out ‹_› (7 + j) (belT b1 BX) (by omega))
          have HLJ := Lib.hid (HLK.out (7 + j) (by omega))
          have HLT := Lib.hid hlt
          have hs1 : w1.heap.size ≤ _ := BX.size
          go_wp2_with fail
          refine Calls.mono HRJ.out ?_
          rintro r w2 ⟨v2, rfl, O2, b2⟩
          have O2 : Own w2 _ v2 (B.lookB b i (7 + j)) := O2
          obtain ⟨a2, k2, rfl, _, _⟩ := O2.byt.shapeN HLJ.out
          have HNX := Lib.hid HCS.out
          go_wp2_with (at_builtin; go_loud (refine wpList_append_rowD rfl _ _ 31 rfl j0 Try.underlying31 hj hy0 hy1 hy2 w1.heap.size _ (C j) (fun _ => False) rfl _ (belA1 b2) hO.out (fun g hg => hg.elim) _ _ (B.lookB b i (7 + j)) rfl (At.one _ _ _ (by first | rfl | simp)) (O2.up (belA1 (belR _))) (by rw [HCL.out]; omega) hs1 ?_); intro v3 w3 O3 g3)
          go_roundw
          case rel =>
            refine ⟨j + 1, HLT.out, by go_num, ?_, belG (belT BX (belA1 b2)) g3 (fun g hg => hO.out.ge g hg)⟩
            show OwnD _ _ _ _ _
            rw [HCS.out]
            exact O3
          case measure => have := HLT.out; simp [intOf]; omega
        · have hje : j = M := by omega
          have hjI : ¬ (j : Int) < (M : Int) := by omega
          have hjB : decide ((j : Int) < (M : Int)) = false := decide_eq_false hjI
          have hjP : ((j : Int) < (M : Int)) = False := eq_false hjI
          rw [hje, HCM.out] at hO
          have hoL : (B.ofL b i).length = M := by rw [← HCM.out, HCL.out]
          obtain ⟨ad, cd, hde, _, _⟩ := hO.out.shape
          rw [hoL] at hde
          subst hde
          have HHD := Lib.hid (bkhead_any e x _ _ _ hO.out.parts HEX.out.1 HEX.out.2 (by rw [hoL]; exact hM28))
          have HOKV : Hid (decide (B.lookB b i 6 = headL e x (B.ofL b i)) = B.ofOk b i e x) := by
            show _ = _
            unfold B.ofOk
            rw [HF.out, ← HM.out, decide_eq_true hM28]
            simp
          have HHL := Lib.hid (headL_len e x (B.ofL b i))
          clear hje hoL
          go_wp2_with fail
          refine Calls.mono HHD.out ?_
          rintro r w4 ⟨hv, rfl, O4, b4⟩
          obtain ⟨a4, k4, rfl, _, _⟩ := O4.byt.shapeN HHL.out
          have HBE := Lib.hid (bequal_any _ _ _ _ w4 (O1h.out.byt.up (belT BX b4)) O4.byt)
          rw [HOKV.out] at HBE
          go_wp2_with fail
          refine Calls.mono HBE.out ?_
          rintro r w5 ⟨rfl, rfl⟩
          go_wp2
          go_ret2
          exact ⟨_, rfl, fun _ => (hO.out.up b4).mono b1.size (fun _ _ h => h), belT b1 (belT BX b4)⟩
theorem bkget_no (g : Nat) (vv : Value) (e x : Int) (w : World) (hn : mayB e x [] = false) :
    Calls Try.prog 19 #[.pointer (some ⟨g, 0, none⟩), vv, .int .i64 e, .int .i64 x] w fun r w' => r = .returned (.tuple #[.slice none 0 0, .bool false]) ∧ Below w.heap.size w w' := by
  have H := Lib.hid (bkmay_no e x (.slice none 0 0) [] w (Parts.nil w) hn)
  clear hn
  go_enter Try.func19, Try.ntmps19
  go_wp2_with fail
  refine Calls.mono H.out ?_
  rintro r w1 ⟨rfl, D⟩
  go_wp2
  go_ret2
  exact ⟨rfl, D⟩
theorem bkget_any (w : World) (base g : Nat) (lv : Value) (hs : List (Nat × Value)) (b : B.Bn) (vv : Value) (lvs : List Bool) (e x : Nat) (h : IsBench w base g lv hs b) (hL : B.Lv b) (hn : b.ds.length ≤ 8) (hV : Bools w vv lvs) (he : e < 65536) (hx : x ≤ 16) :
    Calls Try.prog 19 #[.pointer (some ⟨g, 0, none⟩), vv, .int .i64 (e : Int), .int .i64 (x : Int)] w fun r w' => ∃ v, r = .returned (.tuple #[v, .bool (B.getO b lvs e x b.ds.length).isSome]) ∧ (∀ i, B.getO b lvs e x b.ds.length = some i → OwnD w' w.heap.size v (B.ofL b i) (fun _ => False)) ∧ Below w.heap.size w w' := by
  have HMAY := Lib.hid (bkmay_yes e x (.slice none 0 0) [] w (Parts.nil w) he hx (by simp) (by simp))
  have HLEN := Lib.hid (fun X (hX : Below w.heap.size w X) => blen_any X base g lv hs b (h.up hX))
  obtain ⟨N, hN⟩ : ∃ N, N = b.ds.length := ⟨_, rfl⟩
  have HOF := Lib.hid (fun X i (hX : Below w.heap.size w X) (hi : i < N) => bkof_any X base g lv hs b i e x (h.up hX) hL (by rw [← hN]; exact hi) hn he hx)
  have HIS := Lib.hid (fun X i (hX : Below w.heap.size w X) (hi : i ≤ 1000000) => bkis_any vv lvs i X (hV.up hX) hi)
  rw [← hN] at HLEN hn ⊢
  have HG0 : Hid (B.getO b lvs e x 0 = none) := rfl
  clear h hL hV he hx hN
  go_enter Try.func19, Try.ntmps19
  go_wp2_with fail
  refine Calls.mono HMAY.out ?_
  rintro r w1 ⟨rfl, b1⟩
  go_wp2_with fail
  refine Calls.mono (HLEN.out w1 b1) ?_
  rintro r w2 ⟨rfl, rfl⟩
  go_wp2
  go_loopw [19] (fun k X => ∃ j : Nat, j ≤ N ∧ k = .int .i64 j ∧ Hid (B.getO b lvs e x j = none) ∧ Below w.heap.size w X) (fun k _ => N - (intOf k).toNat)
  case atStart => exact ⟨0, Nat.zero_le _, rfl, HG0, b1⟩
  case round =>
    obtain ⟨j, hjN, rfl, HG, BX⟩ := hrel
    by_cases hlt : j < N
    · have hjI : (j : Int) < (N : Int) := by omega
      have hj1' : IntKind.i64.wrap ((j : Int) + 1) = ((j + 1 : Nat) : Int) := by rw [IntKind.wrap_i64]; omega
      have HISJ := Lib.hid (HIS.out ‹_› j BX (by omega))
      have HLT := Lib.hid hlt
      by_cases hlive : B.live1 lvs j = true
      · rw [hlive] at HISJ
        have HOFJ := Lib.hid (HOF.out ‹_› j BX hlt)
        clear hlt
        by_cases hok : B.ofOk b j e x = true
        · have HRES : Hid (B.getO b lvs e x N = some j) := B.getO_succ_yes HG.out (by rw [hlive, hok]; rfl) HLT.out
          rw [hok] at HOFJ
          clear hlive hok
          go_wp2_with fail
          refine Calls.mono HISJ.out ?_
          rintro r w3 ⟨rfl, rfl⟩
          go_wp2_with fail
          refine Calls.mono HOFJ.out ?_
          rintro r w4 ⟨v4, rfl, O4, b4⟩
          have O4 := O4 (by first | exact rfl | trivial)
          go_wp2
          go_ret2
          rw [HRES.out]
          exact ⟨_, rfl, fun i hi => by cases hi; exact O4.mono BX.size (fun _ _ h => h), belT BX b4⟩
        · have hok0 : B.ofOk b j e x = false := by simpa using hok
          have HG1 : Hid (B.getO b lvs e x (j + 1) = none) := B.getO_succ_no HG.out (by rw [hlive, hok0]; rfl)
          rw [hok0] at HOFJ
          clear hlive hok hok0
          go_wp2_with fail
          refine Calls.mono HISJ.out ?_
          rintro r w3 ⟨rfl, rfl⟩
          go_wp2_with fail
          refine Calls.mono HOFJ.out ?_
          rintro r w4 ⟨v4, rfl, O4, b4⟩
          go_wp2
          go_roundw
          case rel => exact ⟨j + 1, HLT.out, by go_num, HG1, belT BX b4⟩
          case measure => have := HLT.out; simp [intOf]; omega
      · have hl0 : B.live1 lvs j = false := by simpa using hlive
        rw [hl0] at HISJ
        have HG1 : Hid (B.getO b lvs e x (j + 1) = none) := B.getO_succ_no HG.out (by rw [hl0]; rfl)
        clear hlive hl0 hlt
        go_wp2_with fail
        refine Calls.mono HISJ.out ?_
        rintro r w3 ⟨rfl, rfl⟩
        go_wp2
        go_roundw
        case rel => exact ⟨j + 1, HLT.out, by go_num, HG1, BX⟩
        case measure => have := HLT.out; simp [intOf]; omega
    · have hje : j = N := by omega
      have hjI : ¬ (j : Int) < (N : Int) := by omega
      have hjB : decide ((j : Int) < (N : Int)) = false := decide_eq_false hjI
      have hjP : ((j : Int) < (N : Int)) = False := eq_false hjI
      rw [hje] at HG
      clear hje hlt
      go_wp2
      go_ret2
      rw [HG.out]
      exact ⟨_, rfl, fun i hi => (by cases hi), BX⟩
end Go.Proofs.Ytenjpldinnbcbaa
