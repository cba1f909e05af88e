/- Merged: BenchW, BenchX, BenchY. -/
import Derived.Test.YtenjpldinnbcbaaBench
/- The walks of package bench: what asks. -/

namespace Go.Proofs.Ytenjpldinnbcbaa
open Go.RowKit
set_option linter.unusedVariables false
set_option linter.unusedSimpArgs false
set_option maxRecDepth 100000
set_option maxHeartbeats 1000000

theorem bis_any (w : World) (base g : Nat) (lv : Value) (hs : List (Nat × Value)) (b : B.Bn) (d : Int) (h : IsBench w base g lv hs b) :
    Calls Try.prog 60 #[.pointer (some ⟨g, 0, none⟩), .int .i64 d] w fun e w' => e = .returned (.bool (B.is b d)) ∧ w = w' := by
  have hc := h.cell.2.2.2
  obtain ⟨ao, cap, rfl, _, _⟩ := h.shape
  clear h
  by_cases h0 : 0 ≤ d
  · by_cases h1 : d < b.ds.length
    · have HE : Hid (B.is b d = true) := decide_eq_true ⟨h0, h1⟩
      go_enter Try.func60, Try.ntmps60
      go_wp2
      go_ret
      exact ⟨by rw [HE.out]; rfl, rfl⟩
    · have HE : Hid (B.is b d = false) := decide_eq_false (fun h => h1 h.2)
      go_enter Try.func60, Try.ntmps60
      go_wp2
      go_ret
      exact ⟨by rw [HE.out]; rfl, rfl⟩
  · have HE : Hid (B.is b d = false) := decide_eq_false (fun h => h0 h.1)
    go_enter Try.func60, Try.ntmps60
    go_wp2
    go_ret
    exact ⟨by rw [HE.out]; rfl, rfl⟩
theorem bmay_any (w : World) (base g : Nat) (lv : Value) (hs : List (Nat × Value)) (b : B.Bn) (d : Int) (h : IsBench w base g lv hs b) :
    Calls Try.prog 64 #[.pointer (some ⟨g, 0, none⟩), .int .i64 d] w fun e w' => e = .returned (.int .i64 (B.may b d)) ∧ w = w' := by
  have HC := Lib.hid (bis_any w base g lv hs b d h)
  have hd := h.cell.2.2.1
  clear h
  cases hi : B.is b d with
  | true =>
    cases hdn : b.down with
    | true =>
      rw [hdn] at hd
      rw [hi] at HC
      have HE : Hid (B.may b d = 6) := by show _ = _; unfold B.may; rw [hi, hdn]; rfl
      clear hi hdn
      go_enter Try.func64, Try.ntmps64
      go_wp2_with fail
      refine Calls.mono HC.out ?_
      rintro e w1 ⟨rfl, rfl⟩
      go_wp2
      go_ret
      exact ⟨by rw [HE.out]; rfl, rfl⟩
    | false =>
      rw [hdn] at hd
      rw [hi] at HC
      have HE : Hid (B.may b d = 0) := by show _ = _; unfold B.may; rw [hi, hdn]; rfl
      clear hi hdn
      go_enter Try.func64, Try.ntmps64
      go_wp2_with fail
      refine Calls.mono HC.out ?_
      rintro e w1 ⟨rfl, rfl⟩
      go_wp2
      go_ret
      exact ⟨by rw [HE.out]; rfl, rfl⟩
  | false =>
    rw [hi] at HC
    have HE : Hid (B.may b d = 1) := by show _ = _; unfold B.may; rw [hi]; rfl
    clear hi
    go_enter Try.func64, Try.ntmps64
    go_wp2_with fail
    refine Calls.mono HC.out ?_
    rintro e w1 ⟨rfl, rfl⟩
    go_wp2
    go_ret
    exact ⟨by rw [HE.out]; rfl, rfl⟩
theorem bwrites_any (w : World) (base g : Nat) (lv : Value) (hs : List (Nat × Value)) (b : B.Bn) (h : IsBench w base g lv hs b) :
    Calls Try.prog 23 #[.pointer (some ⟨g, 0, none⟩)] w fun e w' => e = .returned (.int .i64 b.writes) ∧ w = w' := by
  have hc := h.cell.1
  clear h
  go_enter Try.func23, Try.ntmps23
  go_wp2
  go_ret
  exact ⟨rfl, rfl⟩
theorem bdown_any (w : World) (base g : Nat) (lv : Value) (hs : List (Nat × Value)) (b : B.Bn) (h : IsBench w base g lv hs b) :
    Calls Try.prog 79 #[.pointer (some ⟨g, 0, none⟩)] w fun e w' => e = .returned (.bool b.down) ∧ w = w' := by
  have hc := h.cell.2.2.1
  clear h
  go_enter Try.func79, Try.ntmps79
  go_wp2
  go_ret
  exact ⟨rfl, rfl⟩
theorem blen_any (w : World) (base g : Nat) (lv : Value) (hs : List (Nat × Value)) (b : B.Bn) (h : IsBench w base g lv hs b) :
    Calls Try.prog 55 #[.pointer (some ⟨g, 0, none⟩)] w fun e w' => e = .returned (.int .i64 (b.ds.length : Nat)) ∧ w = w' := by
  have hc := h.cell.2.2.2
  obtain ⟨ao, cap, rfl, _, _⟩ := h.shape
  clear h
  go_enter Try.func55, Try.ntmps55
  go_wp2
  go_ret
  exact ⟨rfl, rfl⟩
namespace B
theorem may_zero {b : Bn} {d : Int} (h : may b d = 0) : b.down = false ∧ 0 ≤ d ∧ d < b.ds.length := by
  unfold may at h
  by_cases hi : is b d = true
  · rw [if_pos hi] at h
    have := of_decide_eq_true hi
    by_cases hd : b.down = true
    · rw [if_pos hd] at h; omega
    · exact ⟨by simpa using hd, this.1, this.2⟩
  · rw [if_neg hi] at h; omega
theorem dk_nat {b : Bn} {i : Nat} {d : D.Dk} (h : b.ds[i]? = some d) : dk b (i : Int) = d := by
  unfold dk
  simp [List.getD, h]
def readE (b : Bn) (d at' : Int) : Int := if may b d ≠ 0 then may b d else D.may (dk b d) at'
def readL (b : Bn) (d at' : Int) : List Nat := if may b d ≠ 0 then [] else D.readL (dk b d) at'
end B
theorem bread_any (w : World) (base g : Nat) (lv : Value) (hs : List (Nat × Value)) (b : B.Bn) (d at' : Int) (h : IsBench w base g lv hs b) :
    Calls Try.prog 27 #[.pointer (some ⟨g, 0, none⟩), .int .i64 d, .int .i64 at'] w fun e w' => ∃ v, e = .returned (.tuple #[v, .int .i64 (B.readE b d at')]) ∧ Own w' w.heap.size v (B.readL b d at') ∧ Below w.heap.size w w' := by
  have HC := Lib.hid (bmay_any w base g lv hs b d h)
  by_cases hm : B.may b d = 0
  · have HE : Hid (B.readE b d at' = D.may (B.dk b d) at' ∧ B.readL b d at' = D.readL (B.dk b d) at') := by
      unfold B.readE B.readL; rw [if_neg (by simpa using hm), if_neg (by simpa using hm)]; exact ⟨rfl, rfl⟩
    rw [HE.out.1, HE.out.2]
    rw [hm] at HC
    obtain ⟨_, h0, h1⟩ := B.may_zero hm
    obtain ⟨i, rfl⟩ := Int.eq_ofNat_of_zero_le h0
    have hc := h.cell.2.2.2
    obtain ⟨ao, cap, rfl, hcap, _⟩ := h.shape
    obtain ⟨bl, k, dk, rfl, hcell, hk, hdk, hD⟩ := h.get (i := i) (by omega)
    rw [B.dk_nat hdk]
    have HD := Lib.hid hD
    clear hm h hk hdk HE hD
    go_enter Try.func27, Try.ntmps27
    go_wp2_with fail
    refine Calls.mono HC.out ?_
    rintro e w1 ⟨rfl, rfl⟩
    go_wp2_with fail
    refine Calls.mono (readA w _ _ _ _ at' HD.out) ?_
    rintro e w2 ⟨v, rfl, O2, b2⟩
    go_wp2
    go_ret2
    exact ⟨_, rfl, O2, b2⟩
  · have HE : Hid (B.readE b d at' = B.may b d ∧ B.readL b d at' = []) := by
      unfold B.readE B.readL; rw [if_pos hm, if_pos hm]; exact ⟨rfl, rfl⟩
    rw [HE.out.1, HE.out.2]
    obtain ⟨m, hmm⟩ : ∃ m, m = B.may b d := ⟨_, rfl⟩
    rw [← hmm] at hm HC ⊢
    have hb : (m != 0) = true := by rw [bne_iff_ne]; exact hm
    clear hm hmm h HE
    go_enter Try.func27, Try.ntmps27
    go_wp2_with fail
    refine Calls.mono HC.out ?_
    rintro e w1 ⟨rfl, rfl⟩
    go_wp2
    go_ret2
    exact ⟨_, rfl, Own.empty _ _, belR _⟩
theorem rangeAt_setCell {w : World} {g o : Nat} {cs : List Value} {v : Value} (h : w.rangeAt g 0 cs) (ho : o < cs.length) : (w.setCell ⟨g, o, none⟩ v).rangeAt g 0 (cs.set o v) := fun j u hu => by
  rw [Nat.zero_add]
  have h0 := h o cs[o] (List.getElem?_eq_getElem ho)
  rw [Nat.zero_add] at h0
  by_cases e : o = j
  · subst e
    rw [List.getElem?_set_self ho] at hu
    cases hu
    exact World.cell?_setCell_same _ _ _ h0
  · rw [List.getElem?_set_ne e] at hu
    rw [World.cell?_setCell_other _ _ _ _ (by intro e9; cases e9; exact e rfl)]
    have := h j u hu
    rwa [Nat.zero_add] at this
theorem IsBench.frozen {w : World} {base g : Nat} {lv : Value} {hs : List (Nat × Value)} {b : B.Bn} (h : IsBench w base g lv hs b) {o : Nat} (ho : o < 4) : w.frozen? ⟨g, o, none⟩ = false := there_frozen h.there ho
/-- limit -/
theorem blimit_any (w : World) (base g : Nat) (lv : Value) (hs : List (Nat × Value)) (b : B.Bn) (n : Int) (h : IsBench w base g lv hs b) (hn : -9223372036854775808 ≤ n ∧ n ≤ 9223372036854775807) :
    Calls Try.prog 39 #[.pointer (some ⟨g, 0, none⟩), .int .i64 n] w fun e w' => e = .returned (.tuple #[]) ∧ IsBench w' base g lv hs { b with left := if n < -1 then -1 else n } ∧ Fr (fun x => x = g) w w' := by
  have hc := h.cell.2.1
  have hz := h.frozen (o := 1) (by decide)
  have HH := Lib.hid h
  clear h
  have key : ∀ m : Int, IsBench (w.setCell ⟨g, 1, none⟩ (.int .i64 m)) base g lv hs { b with left := m } := fun m =>
    HH.out.setCells (Fr.cell (w := w) ⟨g, 1, none⟩ _) (rangeAt_setCell HH.out.cells (by show 1 < 4; decide)) (World.there_setCells HH.out.there g 1 [.int .i64 m]) rfl
  have HK := Lib.hid key
  clear key
  by_cases hlt : n < -1
  · rw [if_pos hlt]
    go_enter Try.func39, Try.ntmps39
    go_wp2
    all_goals
      go_end0
      refine ⟨rfl, ?_, Fr.cell (w := w) ⟨g, 1, none⟩ _⟩
      first | exact HK.out _ | (have e9 : n = -1 := by omega
                                rw [e9]; exact HK.out _)
  · rw [if_neg hlt]
    go_enter Try.func39, Try.ntmps39
    go_wp2
    all_goals
      go_end0
      refine ⟨rfl, ?_, Fr.cell (w := w) ⟨g, 1, none⟩ _⟩
      first | exact HK.out _ | (have e9 : n = -1 := by omega
                                rw [e9]; exact HK.out _)
/-- count: with no more to be done there is no power -/
theorem bcount_no (w : World) (base g : Nat) (lv : Value) (hs : List (Nat × Value)) (b : B.Bn) (h : IsBench w base g lv hs b) (h0 : b.left = 0) :
    Calls Try.prog 83 #[.pointer (some ⟨g, 0, none⟩)] w fun e w' => e = .returned (.bool false) ∧ IsBench w' base g lv hs { b with down := true } ∧ Fr (fun x => x = g) w w' := by
  have hc := h.cell.2.1
  rw [h0] at hc
  have hd := h.cell.2.2.1
  have hz := h.frozen (o := 2) (by decide)
  have HK : Hid (IsBench (w.setCell ⟨g, 2, none⟩ (.bool true)) base g lv hs { b with down := true }) :=
    h.setCells (Fr.cell (w := w) ⟨g, 2, none⟩ _) (rangeAt_setCell h.cells (by show 2 < 4; decide)) (World.there_setCells h.there g 2 [.bool true]) rfl
  clear h h0
  go_enter Try.func83, Try.ntmps83
  go_wp2
  go_ret
  exact ⟨rfl, HK.out, Fr.cell (w := w) ⟨g, 2, none⟩ _⟩
theorem bcount_yes (w : World) (base g : Nat) (lv : Value) (hs : List (Nat × Value)) (b : B.Bn) (h : IsBench w base g lv hs b) (h0 : b.left ≠ 0) (hw : -4611686018427387904 < b.writes ∧ b.writes < 4611686018427387904) (hl : -4611686018427387904 < b.left ∧ b.left ≤ 9223372036854775807) :
    Calls Try.prog 83 #[.pointer (some ⟨g, 0, none⟩)] w fun e w' => e = .returned (.bool true) ∧ IsBench w' base g lv hs (B.counted b) ∧ Fr (fun x => x = g) w w' := by
  obtain ⟨hc0, hc1, _, _⟩ := h.cell
  have hz0 := h.frozen (o := 0) (by decide)
  have hz1 := h.frozen (o := 1) (by decide)
  have hb : (b.left == 0) = false := by rw [beq_eq_false_iff_ne]; exact h0
  by_cases hp : 0 < b.left
  · have hcnt : B.counted b = { b with writes := b.writes + 1, left := b.left - 1 } := by unfold B.counted; rw [if_pos hp]
    have h1 : IsBench (w.setCell ⟨g, 1, none⟩ (.int .i64 (b.left - 1))) base g lv hs { b with left := b.left - 1 } :=
      h.setCells (Fr.cell (w := w) ⟨g, 1, none⟩ _) (rangeAt_setCell h.cells (by show 1 < 4; decide)) (World.there_setCells h.there g 1 [.int .i64 (b.left - 1)]) rfl
    have HK : Hid (IsBench ((w.setCell ⟨g, 1, none⟩ (.int .i64 (b.left - 1))).setCell ⟨g, 0, none⟩ (.int .i64 (b.writes + 1))) base g lv hs (B.counted b)) := by
      rw [hcnt]
      exact h1.setCells (Fr.cell ⟨g, 0, none⟩ _) (rangeAt_setCell h1.cells (by show 0 < 4; decide)) (World.there_setCells h1.there g 0 [.int .i64 (b.writes + 1)]) rfl
    have hc0' := h1.cell.1
    have hz0' := h1.frozen (o := 0) (by decide)
    have HF : Hid (Fr (fun x => x = g) w ((w.setCell ⟨g, 1, none⟩ (.int .i64 (b.left - 1))).setCell ⟨g, 0, none⟩ (.int .i64 (b.writes + 1)))) := (Fr.cell (w := w) ⟨g, 1, none⟩ _).trans (Fr.cell ⟨g, 0, none⟩ _)
    clear h h1 hcnt h0
    go_enter Try.func83, Try.ntmps83
    go_wp2
    go_ret
    exact ⟨rfl, HK.out, HF.out⟩
  · have hcnt : B.counted b = { b with writes := b.writes + 1 } := by unfold B.counted; rw [if_neg hp]
    have HK : Hid (IsBench (w.setCell ⟨g, 0, none⟩ (.int .i64 (b.writes + 1))) base g lv hs (B.counted b)) := by
      rw [hcnt]
      exact h.setCells (Fr.cell ⟨g, 0, none⟩ _) (rangeAt_setCell h.cells (by show 0 < 4; decide)) (World.there_setCells h.there g 0 [.int .i64 (b.writes + 1)]) rfl
    have HF : Hid (Fr (fun x => x = g) w (w.setCell ⟨g, 0, none⟩ (.int .i64 (b.writes + 1)))) := Fr.cell (w := w) ⟨g, 0, none⟩ _
    clear h hcnt h0
    go_enter Try.func83, Try.ntmps83
    go_wp2
    go_ret
    exact ⟨rfl, HK.out, HF.out⟩
end Go.Proofs.Ytenjpldinnbcbaa
/- The walk of bench's Write. -/

namespace Go.Proofs.Ytenjpldinnbcbaa
open Go.RowKit
set_option linter.unusedVariables false
set_option linter.unusedSimpArgs false
set_option maxRecDepth 100000
set_option maxHeartbeats 1000000

theorem IsBench.small {w : World} {base g : Nat} {lv : Value} {hs : List (Nat × Value)} {b : B.Bn} (h : IsBench w base g lv hs b) (B0 : Nat) (w' : World) (S : Nat → Prop) (k : Fr S w w') (hS : ∀ x, S x → w.heap.size ≤ x) : IsBench w' base g lv hs b :=
  h.fr k (fun x hx hs2 => by have := h.lts x hx; have := hS x hs2; omega)
theorem bwrite_any (w : World) (base g : Nat) (lv : Value) (hs : List (Nat × Value)) (b : B.Bn) (d at' : Int) (bv : Value) (x : List Nat) (h : IsBench w base g lv hs b) (hx : Byt w bv x) (hap : ∀ y, bv.ownBlock = some y → ¬ ofB g lv hs y) (hb0 : base ≤ w.heap.size)
    (hsz : ∀ dk ∈ b.ds, (dk.p.length + 1) * 40 ≤ 140737488355328) (hw : -4611686018427387904 < b.writes ∧ b.writes < 4611686018427387904) (hl : -4611686018427387904 < b.left ∧ b.left ≤ 9223372036854775807) :
    Calls Try.prog 40 #[.pointer (some ⟨g, 0, none⟩), .int .i64 d, .int .i64 at', bv] w fun e w' => e = .returned (.int .i64 (B.writeE b d at' x)) ∧ ∃ hs', IsBench w' base g lv hs' (B.write b d at' x) ∧ Fr (ofB g lv hs) w w' ∧ ∀ y, ofB g lv hs' y → ofB g lv hs y ∨ w.heap.size ≤ y := by
  have HC := Lib.hid (bmay_any w base g lv hs b d h)
  by_cases hm : B.may b d ≠ 0
  · have HE : Hid (B.writeE b d at' x = B.may b d ∧ B.write b d at' x = b) := by
      unfold B.writeE B.write; rw [if_pos hm, if_pos hm]; exact ⟨rfl, rfl⟩
    rw [HE.out.1, HE.out.2]
    obtain ⟨m, hmm⟩ : ∃ m, m = B.may b d := ⟨_, rfl⟩
    rw [← hmm] at hm HC ⊢
    have hb : (m != 0) = true := by rw [bne_iff_ne]; exact hm
    have HH := Lib.hid h
    clear hm hmm h HE hx hap hsz hw hl
    go_enter Try.func40, Try.ntmps40
    go_wp2_with fail
    refine Calls.mono HC.out ?_
    rintro e w1 ⟨rfl, rfl⟩
    go_wp2
    go_ret
    exact ⟨rfl, hs, HH.out, Fr.refl _ _, fun y hy => .inl hy⟩
  · have hm0 : B.may b d = 0 := Classical.byContradiction hm
    rw [hm0] at HC
    obtain ⟨_, h0, h1⟩ := B.may_zero hm0
    obtain ⟨i, rfl⟩ := Int.eq_ofNat_of_zero_le h0
    have hc := h.cell.2.2.2
    obtain ⟨ao, cap, rfl, hcap, _⟩ := h.shape
    obtain ⟨bl, k, dk, rfl, hcell, hk, hdk, hD⟩ := h.get (i := i) (by omega)
    have hdkb : B.dk b (i : Int) = dk := B.dk_nat hdk
    have HD := Lib.hid hD
    have HH := Lib.hid h
    have HK := Lib.hid hk
    have HDK := Lib.hid hdk
    have hdm : dk ∈ b.ds := List.mem_of_getElem? hdk
    have HSZ := Lib.hid (hsz dk hdm)
    have hin : i < b.ds.length := by omega
    have HX := Lib.hid hx
    have HAP := Lib.hid hap
    have HWL := Lib.hid (And.intro hw hl)
    by_cases hp : putI dk at' x ≠ 0
    · have HE : Hid (B.writeE b (i : Int) at' x = putI dk at' x ∧ B.write b (i : Int) at' x = b) := by
        unfold B.writeE B.write; rw [if_neg hm, if_neg hm, hdkb, if_pos hp, if_pos hp]; exact ⟨rfl, rfl⟩
      rw [HE.out.1, HE.out.2]
      obtain ⟨m, hmm⟩ : ∃ m, m = putI dk at' x := ⟨_, rfl⟩
      have HM := Lib.hid hmm
      rw [← hmm] at hp ⊢
      have hb : (m != 0) = true := by rw [bne_iff_ne]; exact hp
      clear hm hm0 hmm h HE hx hap hsz hw hl hk hdk hD hdm hp hdkb
      go_enter Try.func40, Try.ntmps40
      go_wp2_with fail
      refine Calls.mono HC.out ?_
      rintro e w1 ⟨rfl, rfl⟩
      go_wp2_with fail
      refine Calls.mono (dclone_any w _ _ _ _ HD.out (by have := HSZ.out; omega)) ?_
      rintro e w1 ⟨pv1, rfl, E1, b1⟩
      go_wp2_with fail
      refine Calls.mono (writeA w1 _ _ _ _ at' bv x E1 (HX.out.up b1) b1.size HSZ.out) ?_
      rw [← HM.out]
      rintro e w2 ⟨rfl, pv2, E2, F2, p2⟩
      have B2 := F2.low b1 b1.size (fun y hy => E1.ges y hy)
      go_wp2
      go_ret
      exact ⟨rfl, hs, HH.out.up B2, Fr.of_below B2, fun y hy => .inl hy⟩
    · have hp0 : putI dk at' x = 0 := Classical.byContradiction hp
      have HP0 := Lib.hid hp0
      by_cases hl0 : b.left = 0
      · have HE : Hid (B.writeE b (i : Int) at' x = 6 ∧ B.write b (i : Int) at' x = { b with down := true }) := by
          unfold B.writeE B.write; rw [if_neg hm, if_neg hm, hdkb, if_neg hp, if_neg hp, if_pos hl0, if_pos hl0]; exact ⟨rfl, rfl⟩
        rw [HE.out.1, HE.out.2]
        have HL0 := Lib.hid hl0
        clear hm hm0 h HE hx hap hsz hw hl hk hdk hD hdm hp hp0 hdkb hl0
        go_enter Try.func40, Try.ntmps40
        go_wp2_with fail
        refine Calls.mono HC.out ?_
        rintro e w1 ⟨rfl, rfl⟩
        go_wp2_with fail
        refine Calls.mono (dclone_any w _ _ _ _ HD.out (by have := HSZ.out; omega)) ?_
        rintro e w1 ⟨pv1, rfl, E1, b1⟩
        go_wp2_with fail
        refine Calls.mono (writeA w1 _ _ _ _ at' bv x E1 (HX.out.up b1) b1.size HSZ.out) ?_
        rw [HP0.out]
        rintro e w2 ⟨rfl, pv2, E2, F2, p2⟩
        have B2 := F2.low b1 b1.size (fun y hy => E1.ges y hy)
        go_wp2_with fail
        refine Calls.mono (bcount_no w2 _ _ _ _ _ (HH.out.up B2) HL0.out) ?_
        rintro e w3 ⟨rfl, H3, F3⟩
        go_wp2
        go_ret
        exact ⟨rfl, hs, H3, (Fr.of_below B2).trans (F3.mono (fun y hy => .inl hy)), fun y hy => .inl hy⟩
      · have HE : Hid (B.writeE b (i : Int) at' x = 0 ∧ B.write b (i : Int) at' x = { B.counted b with ds := (B.counted b).ds.set i (D.wrote dk at' x) }) := by
          unfold B.writeE B.write; rw [if_neg hm, if_neg hm, hdkb, if_neg hp, if_neg hp, if_neg hl0, if_neg hl0]
          refine ⟨rfl, ?_⟩
          unfold B.setD D.wrote
          rw [if_pos hp0]
          rfl
        rw [HE.out.1, HE.out.2]
        have HL0 := Lib.hid hl0
        clear hm hm0 h HE hx hap hsz hw hl hk hdk hD hdm hp hp0 hdkb hl0
        go_enter Try.func40, Try.ntmps40
        go_wp2_with fail
        refine Calls.mono HC.out ?_
        rintro e w1 ⟨rfl, rfl⟩
        go_wp2_with fail
        refine Calls.mono (dclone_any w _ _ _ _ HD.out (by have := HSZ.out; omega)) ?_
        rintro e w1 ⟨pv1, rfl, E1, b1⟩
        go_wp2_with fail
        refine Calls.mono (writeA w1 _ _ _ _ at' bv x E1 (HX.out.up b1) b1.size HSZ.out) ?_
        rw [HP0.out]
        rintro e w2 ⟨rfl, pv2, E2, F2, p2⟩
        have B2 := F2.low b1 b1.size (fun y hy => E1.ges y hy)
        go_wp2_with fail
        refine Calls.mono (bcount_yes w2 _ _ _ _ _ (HH.out.up B2) HL0.out HWL.out.1 HWL.out.2) ?_
        rintro e w3 ⟨rfl, H3, F3⟩
        have hc3 := H3.cell.2.2.2
        obtain ⟨bl3, k3, dk3, e3, hcell3, hk3, hdk3, D3⟩ := H3.get (i := i) hin
        cases e3
        have ek : k3 = k := Option.some.inj (hk3.symm.trans HK.out)
        have ed : dk3 = dk := Option.some.inj (hdk3.symm.trans HDK.out)
        rw [ek] at hcell3 hk3 D3
        rw [ed] at D3 hdk3
        have HK3 := Lib.hid hk3
        have HX3 := Lib.hid (Byt.fr (HX.out.up B2) F3 (fun y hy e9 => HAP.out y hy (.inl e9)))
        have HD3 := Lib.hid D3
        have HH3 := Lib.hid H3
        have hs3 : base ≤ w3.heap.size := Nat.le_trans hb0 (Nat.le_trans B2.size F3.size)
        have hs23 : w.heap.size ≤ w3.heap.size := Nat.le_trans B2.size F3.size
        clear hk3 hdk3 D3 H3 ek ed
        go_wp2_with fail
        refine Calls.mono (writeA w3 _ _ _ _ at' bv x HD3.out HX3.out hs3 HSZ.out) ?_
        rw [HP0.out]
        rintro e w4 ⟨rfl, pv4, D4, F4, p4⟩
        obtain ⟨H4, G4, q4⟩ := HH3.out.setDisk HK3.out F4 D4 p4
        go_wp2
        go_ret
        refine ⟨rfl, _, H4, ((Fr.of_below B2).trans (F3.mono (fun y hy => .inl hy))).trans G4, fun y hy => ?_⟩
        rcases q4 y hy with h9 | h9
        · exact .inl h9
        · exact .inr (by omega)
end Go.Proofs.Ytenjpldinnbcbaa
/- The walks of bench's Pending, Fail, Failed, Flush, Damage. -/

namespace Go.Proofs.Ytenjpldinnbcbaa
open Go.RowKit
set_option linter.unusedVariables false
set_option linter.unusedSimpArgs false
set_option maxRecDepth 100000
set_option maxHeartbeats 1000000

theorem sum_le_all : ∀ (l : List Nat) (k : Nat), (l.take k).sum ≤ l.sum
  | [], k => by simp
  | x :: l, 0 => by simp
  | x :: l, k + 1 => by
    rw [List.take_succ_cons, List.sum_cons, List.sum_cons]
    have := sum_le_all l k
    omega
theorem bpending_any (w : World) (base g : Nat) (lv : Value) (hs : List (Nat × Value)) (b : B.Bn) (h : IsBench w base g lv hs b) (hp : B.pending b ≤ 4611686018427387904) :
    Calls Try.prog 25 #[.pointer (some ⟨g, 0, none⟩)] w fun e w' => e = .returned (.int .i64 (B.pending b : Nat)) ∧ w = w' := by
  have hc := h.cell.2.2.2
  have HH := Lib.hid h
  have HP := Lib.hid hp
  obtain ⟨ao, cap, rfl, hcap, _⟩ := h.shape
  clear h hp
  go_enter Try.func25, Try.ntmps25
  go_wp2
  go_loopw [3, 11] (fun n i w' => ∃ k : Nat, k ≤ b.ds.length ∧ i = .int .i64 k ∧ n = .int .i64 (((b.ds.map (fun d => d.p.length)).take k).sum : Nat) ∧ w = w') (fun _ i _ => b.ds.length - (intOf i).toNat)
  case atStart => exact ⟨0, Nat.zero_le _, rfl, rfl, rfl⟩
  case round =>
    obtain ⟨k, hk, rfl, rfl, rfl⟩ := hrel
    by_cases hlt : k < b.ds.length
    · obtain ⟨bl, y, d, rfl, hcell, hky, hdk, hD⟩ := HH.out.get hlt
      have hs1 := sum_le_all (b.ds.map (fun d => d.p.length)) (k + 1)
      have hs2 : ((b.ds.map (fun d => d.p.length)).take (k + 1)).sum = ((b.ds.map (fun d => d.p.length)).take k).sum + d.p.length := by
        rw [take_succ_get (c := d.p.length) (by rw [List.getElem?_map, hdk]; rfl), List.sum_append]
        simp
      have hs3 : (b.ds.map (fun d => d.p.length)).sum ≤ 4611686018427387904 := HP.out
      have HS2 := Lib.hid hs2
      obtain ⟨s, hs⟩ : ∃ s, s = ((b.ds.map (fun d => d.p.length)).take k).sum := ⟨_, rfl⟩
      rw [← hs] at hs2 HS2 ⊢
      have hs4 : s + d.p.length ≤ 4611686018427387904 := by omega
      have HD := Lib.hid hD
      clear hs hs1 hs2 hs3 hky hdk hD
      go_wp2_with fail
      refine Calls.mono (pending_any _ _ _ _ _ HD.out) ?_
      rintro e w2 ⟨rfl, rfl⟩
      go_wp2
      go_roundw
      case rel => exact ⟨k + 1, by omega, by go_num, by rw [HS2.out]; first | rfl | go_num, by first | trivial | rfl⟩
      case measure => simp [intOf]; omega
    · have hke : k = b.ds.length := by omega
      have HE : Hid (((b.ds.map (fun d => d.p.length)).take k).sum = B.pending b) := by
        show _ = _
        unfold B.pending
        rw [List.take_of_length_le (by simp; omega)]
      rw [HE.out]
      clear hke HE
      go_wp2
      go_ret
      exact ⟨rfl, rfl⟩
theorem bfail_any (w : World) (base g : Nat) (lv : Value) (hs : List (Nat × Value)) (b : B.Bn) (i : Nat) (h : IsBench w base g lv hs b) (hi : i < b.ds.length) :
    Calls Try.prog 24 #[.pointer (some ⟨g, 0, none⟩), .int .i64 i] w fun e w' => e = .returned (.int .i64 0) ∧ ∃ hs', IsBench w' base g lv hs' { b with ds := b.ds.set i D.fail } ∧ Fr (ofB g lv hs) w w' ∧ ∀ y, ofB g lv hs' y → ofB g lv hs y ∨ w.heap.size ≤ y := by
  have HC := bis_any w base g lv hs b (i : Int) h
  rw [show B.is b (i : Int) = true from decide_eq_true ⟨by omega, by omega⟩] at HC
  have HC := Lib.hid HC
  have hc := h.cell.2.2.2
  obtain ⟨ao, cap, rfl, hcap, _⟩ := h.shape
  obtain ⟨bl, k, dk, rfl, hcell, hk, hdk, hD⟩ := h.get (i := i) hi
  have HH := Lib.hid h
  have HK := Lib.hid hk
  have HD := Lib.hid hD
  clear h hk hdk hD
  go_enter Try.func24, Try.ntmps24
  go_wp2_with fail
  refine Calls.mono HC.out ?_
  rintro e w1 ⟨rfl, rfl⟩
  go_wp2_with fail
  refine Calls.mono (fail_any w _ _ _ _ HD.out) ?_
  rintro e w2 ⟨rfl, D2, F2⟩
  obtain ⟨H4, G4, q4⟩ := HH.out.setDisk HK.out F2.obj D2 (fun x hx => by cases hx)
  go_wp2
  go_ret
  exact ⟨rfl, _, H4, G4, q4⟩
theorem bfailed_any (w : World) (base g : Nat) (lv : Value) (hs : List (Nat × Value)) (b : B.Bn) (i : Nat) (h : IsBench w base g lv hs b) (hi : i < b.ds.length) :
    Calls Try.prog 47 #[.pointer (some ⟨g, 0, none⟩), .int .i64 i] w fun e w' => e = .returned (.bool (B.dk b i).f) ∧ w = w' := by
  have HC := bis_any w base g lv hs b (i : Int) h
  rw [show B.is b (i : Int) = true from decide_eq_true ⟨by omega, by omega⟩] at HC
  have HC := Lib.hid HC
  have hc := h.cell.2.2.2
  obtain ⟨ao, cap, rfl, hcap, _⟩ := h.shape
  obtain ⟨bl, k, dk, rfl, hcell, hk, hdk, hD⟩ := h.get (i := i) hi
  rw [B.dk_nat hdk]
  have HD := Lib.hid hD
  clear h hk hdk hD
  go_enter Try.func47, Try.ntmps47
  go_wp2_with fail
  refine Calls.mono HC.out ?_
  rintro e w1 ⟨rfl, rfl⟩
  go_wp2_with fail
  refine Calls.mono (failed_any w _ _ _ _ HD.out) ?_
  rintro e w2 ⟨rfl, rfl⟩
  go_wp2
  go_ret
  exact ⟨rfl, rfl⟩
theorem bflush_down (w : World) (base g : Nat) (lv : Value) (hs : List (Nat × Value)) (b : B.Bn) (d : Int) (h : IsBench w base g lv hs b) (hm : B.may b d ≠ 0) :
    Calls Try.prog 58 #[.pointer (some ⟨g, 0, none⟩), .int .i64 d] w fun e w' => e = .returned (.int .i64 (B.may b d)) ∧ w = w' := by
  have HC := Lib.hid (bmay_any w base g lv hs b d h)
  obtain ⟨m, hmm⟩ : ∃ m, m = B.may b d := ⟨_, rfl⟩
  rw [← hmm] at hm HC ⊢
  have hb : (m != 0) = true := by rw [bne_iff_ne]; exact hm
  clear hm hmm h
  go_enter Try.func58, Try.ntmps58
  go_wp2_with fail
  refine Calls.mono HC.out ?_
  rintro e w1 ⟨rfl, rfl⟩
  go_wp2
  go_ret
  exact ⟨rfl, rfl⟩
theorem bflush_yes (w : World) (base g : Nat) (lv : Value) (hs : List (Nat × Value)) (b : B.Bn) (i : Nat) (h : IsBench w base g lv hs b) (hi : i < b.ds.length) (hd : b.down = false) :
    Calls Try.prog 58 #[.pointer (some ⟨g, 0, none⟩), .int .i64 i] w fun e w' => e = .returned (.int .i64 (if (B.dk b i).f then 5 else 0)) ∧ ∃ hs', IsBench w' base g lv hs' { b with ds := b.ds.set i (D.flushed (B.dk b i)) } ∧ Fr (ofB g lv hs) w w' ∧ ∀ y, ofB g lv hs' y → ofB g lv hs y ∨ w.heap.size ≤ y := by
  have HC := bmay_any w base g lv hs b (i : Int) h
  have hm0 : B.may b (i : Int) = 0 := by unfold B.may; rw [show B.is b (i : Int) = true from decide_eq_true ⟨by omega, by omega⟩, hd]; rfl
  rw [hm0] at HC
  have HC := Lib.hid HC
  have hc := h.cell.2.2.2
  obtain ⟨ao, cap, rfl, hcap, _⟩ := h.shape
  obtain ⟨bl, k, dk, rfl, hcell, hk, hdk, hD⟩ := h.get (i := i) hi
  rw [B.dk_nat hdk]
  have HH := Lib.hid h
  have HK := Lib.hid hk
  obtain ⟨m, hm⟩ : ∃ m : Int, m = if dk.f then 5 else 0 := ⟨_, rfl⟩
  have hfl := flushA w _ _ _ _ hD
  rw [← hm] at hfl ⊢
  have HFL := Lib.hid hfl
  clear h hk hdk hD hm0 hd hm hfl
  go_enter Try.func58, Try.ntmps58
  go_wp2_with fail
  refine Calls.mono HC.out ?_
  rintro e w1 ⟨rfl, rfl⟩
  go_wp2_with fail
  refine Calls.mono HFL.out ?_
  rintro e w2 ⟨rfl, pv2, D2, F2, p2⟩
  obtain ⟨H4, G4, q4⟩ := HH.out.setDisk HK.out F2 D2 p2
  go_wp2
  go_ret
  exact ⟨rfl, _, H4, G4, q4⟩
end Go.Proofs.Ytenjpldinnbcbaa
