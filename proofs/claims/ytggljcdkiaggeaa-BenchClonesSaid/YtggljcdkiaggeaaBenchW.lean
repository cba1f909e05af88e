/- The walks of package bench: what asks. -/
import Derived.Test.YtggljcdkiaggeaaBench
namespace Go.Proofs.Ytggljcdkiaggeaa
open Go.RowKit
set_option linter.unusedVariables false
set_option linter.unusedSimpArgs false
set_option maxRecDepth 100000
set_option maxHeartbeats 1000000

theorem bis_any (w : World) (base g : Nat) (lv : Value) (hs : List (Nat × Value)) (b : B.Bn) (d : Int) (h : IsBench w base g lv hs b) :
    Calls Try.prog 61 #[.pointer (some ⟨g, 0, none⟩), .int .i64 d] w fun e w' => e = .returned (.bool (B.is b d)) ∧ w = w' := by
  have hc := h.cell.2.2.2
  obtain ⟨ao, cap, rfl, _, _⟩ := h.shape
  clear h
  by_cases h0 : 0 ≤ d
  · by_cases h1 : d < b.ds.length
    · have HE : Hid (B.is b d = true) := decide_eq_true ⟨h0, h1⟩
      go_enter Try.func61, Try.ntmps61
      go_wp2
      go_ret
      exact ⟨by rw [HE.out]; rfl, rfl⟩
    · have HE : Hid (B.is b d = false) := decide_eq_false (fun h => h1 h.2)
      go_enter Try.func61, Try.ntmps61
      go_wp2
      go_ret
      exact ⟨by rw [HE.out]; rfl, rfl⟩
  · have HE : Hid (B.is b d = false) := decide_eq_false (fun h => h0 h.1)
    go_enter Try.func61, Try.ntmps61
    go_wp2
    go_ret
    exact ⟨by rw [HE.out]; rfl, rfl⟩
theorem bmay_any (w : World) (base g : Nat) (lv : Value) (hs : List (Nat × Value)) (b : B.Bn) (d : Int) (h : IsBench w base g lv hs b) :
    Calls Try.prog 59 #[.pointer (some ⟨g, 0, none⟩), .int .i64 d] w fun e w' => e = .returned (.int .i64 (B.may b d)) ∧ w = w' := by
  have HC := Lib.hid (bis_any w base g lv hs b d h)
  have hd := h.cell.2.2.1
  clear h
  cases hi : B.is b d with
  | true =>
    cases hdn : b.down with
    | true =>
      rw [hdn] at hd
      rw [hi] at HC
      have HE : Hid (B.may b d = 6) := by show _ = _; unfold B.may; rw [hi, hdn]; rfl
      clear hi hdn
      go_enter Try.func59, Try.ntmps59
      go_wp2_with fail
      refine Calls.mono HC.out ?_
      rintro e w1 ⟨rfl, rfl⟩
      go_wp2
      go_ret
      exact ⟨by rw [HE.out]; rfl, rfl⟩
    | false =>
      rw [hdn] at hd
      rw [hi] at HC
      have HE : Hid (B.may b d = 0) := by show _ = _; unfold B.may; rw [hi, hdn]; rfl
      clear hi hdn
      go_enter Try.func59, Try.ntmps59
      go_wp2_with fail
      refine Calls.mono HC.out ?_
      rintro e w1 ⟨rfl, rfl⟩
      go_wp2
      go_ret
      exact ⟨by rw [HE.out]; rfl, rfl⟩
  | false =>
    rw [hi] at HC
    have HE : Hid (B.may b d = 1) := by show _ = _; unfold B.may; rw [hi]; rfl
    clear hi
    go_enter Try.func59, Try.ntmps59
    go_wp2_with fail
    refine Calls.mono HC.out ?_
    rintro e w1 ⟨rfl, rfl⟩
    go_wp2
    go_ret
    exact ⟨by rw [HE.out]; rfl, rfl⟩
theorem bwrites_any (w : World) (base g : Nat) (lv : Value) (hs : List (Nat × Value)) (b : B.Bn) (h : IsBench w base g lv hs b) :
    Calls Try.prog 41 #[.pointer (some ⟨g, 0, none⟩)] w fun e w' => e = .returned (.int .i64 b.writes) ∧ w = w' := by
  have hc := h.cell.1
  clear h
  go_enter Try.func41, Try.ntmps41
  go_wp2
  go_ret
  exact ⟨rfl, rfl⟩
theorem bdown_any (w : World) (base g : Nat) (lv : Value) (hs : List (Nat × Value)) (b : B.Bn) (h : IsBench w base g lv hs b) :
    Calls Try.prog 48 #[.pointer (some ⟨g, 0, none⟩)] w fun e w' => e = .returned (.bool b.down) ∧ w = w' := by
  have hc := h.cell.2.2.1
  clear h
  go_enter Try.func48, Try.ntmps48
  go_wp2
  go_ret
  exact ⟨rfl, rfl⟩
theorem blen_any (w : World) (base g : Nat) (lv : Value) (hs : List (Nat × Value)) (b : B.Bn) (h : IsBench w base g lv hs b) :
    Calls Try.prog 51 #[.pointer (some ⟨g, 0, none⟩)] w fun e w' => e = .returned (.int .i64 (b.ds.length : Nat)) ∧ w = w' := by
  have hc := h.cell.2.2.2
  obtain ⟨ao, cap, rfl, _, _⟩ := h.shape
  clear h
  go_enter Try.func51, Try.ntmps51
  go_wp2
  go_ret
  exact ⟨rfl, rfl⟩
namespace B
theorem may_zero {b : Bn} {d : Int} (h : may b d = 0) : b.down = false ∧ 0 ≤ d ∧ d < b.ds.length := by
  unfold may at h
  by_cases hi : is b d = true
  · rw [if_pos hi] at h
    have := of_decide_eq_true hi
    by_cases hd : b.down = true
    · rw [if_pos hd] at h; omega
    · exact ⟨by simpa using hd, this.1, this.2⟩
  · rw [if_neg hi] at h; omega
theorem dk_nat {b : Bn} {i : Nat} {d : D.Dk} (h : b.ds[i]? = some d) : dk b (i : Int) = d := by
  unfold dk
  simp [List.getD, h]
def readE (b : Bn) (d at' : Int) : Int := if may b d ≠ 0 then may b d else D.may (dk b d) at'
def readL (b : Bn) (d at' : Int) : List Nat := if may b d ≠ 0 then [] else D.readL (dk b d) at'
end B
theorem bread_any (w : World) (base g : Nat) (lv : Value) (hs : List (Nat × Value)) (b : B.Bn) (d at' : Int) (h : IsBench w base g lv hs b) :
    Calls Try.prog 40 #[.pointer (some ⟨g, 0, none⟩), .int .i64 d, .int .i64 at'] w fun e w' => ∃ v, e = .returned (.tuple #[v, .int .i64 (B.readE b d at')]) ∧ Own w' w.heap.size v (B.readL b d at') ∧ Below w.heap.size w w' := by
  have HC := Lib.hid (bmay_any w base g lv hs b d h)
  by_cases hm : B.may b d = 0
  · have HE : Hid (B.readE b d at' = D.may (B.dk b d) at' ∧ B.readL b d at' = D.readL (B.dk b d) at') := by
      unfold B.readE B.readL; rw [if_neg (by simpa using hm), if_neg (by simpa using hm)]; exact ⟨rfl, rfl⟩
    rw [HE.out.1, HE.out.2]
    rw [hm] at HC
    obtain ⟨_, h0, h1⟩ := B.may_zero hm
    obtain ⟨i, rfl⟩ := Int.eq_ofNat_of_zero_le h0
    have hc := h.cell.2.2.2
    obtain ⟨ao, cap, rfl, hcap, _⟩ := h.shape
    obtain ⟨bl, k, dk, rfl, hcell, hk, hdk, hD⟩ := h.get (i := i) (by omega)
    rw [B.dk_nat hdk]
    have HD := Lib.hid hD
    clear hm h hk hdk HE hD
    go_enter Try.func40, Try.ntmps40
    go_wp2_with fail
    refine Calls.mono HC.out ?_
    rintro e w1 ⟨rfl, rfl⟩
    go_wp2_with fail
    refine Calls.mono (readA w _ _ _ _ at' HD.out) ?_
    rintro e w2 ⟨v, rfl, O2, b2⟩
    go_wp2
    go_ret2
    exact ⟨_, rfl, O2, b2⟩
  · have HE : Hid (B.readE b d at' = B.may b d ∧ B.readL b d at' = []) := by
      unfold B.readE B.readL; rw [if_pos hm, if_pos hm]; exact ⟨rfl, rfl⟩
    rw [HE.out.1, HE.out.2]
    obtain ⟨m, hmm⟩ : ∃ m, m = B.may b d := ⟨_, rfl⟩
    rw [← hmm] at hm HC ⊢
    have hb : (m != 0) = true := by rw [bne_iff_ne]; exact hm
    clear hm hmm h HE
    go_enter Try.func40, Try.ntmps40
    go_wp2_with fail
    refine Calls.mono HC.out ?_
    rintro e w1 ⟨rfl, rfl⟩
    go_wp2
    go_ret2
    exact ⟨_, rfl, Own.empty _ _, belR _⟩
theorem rangeAt_setCell {w : World} {g o : Nat} {cs : List Value} {v : Value} (h : w.rangeAt g 0 cs) (ho : o < cs.length) : (w.setCell ⟨g, o, none⟩ v).rangeAt g 0 (cs.set o v) := fun j u hu => by
  rw [Nat.zero_add]
  have h0 := h o cs[o] (List.getElem?_eq_getElem ho)
  rw [Nat.zero_add] at h0
  by_cases e : o = j
  · subst e
    rw [List.getElem?_set_self ho] at hu
    cases hu
    exact World.cell?_setCell_same _ _ _ h0
  · rw [List.getElem?_set_ne e] at hu
    rw [World.cell?_setCell_other _ _ _ _ (by intro e9; cases e9; exact e rfl)]
    have := h j u hu
    rwa [Nat.zero_add] at this
theorem IsBench.frozen {w : World} {base g : Nat} {lv : Value} {hs : List (Nat × Value)} {b : B.Bn} (h : IsBench w base g lv hs b) {o : Nat} (ho : o < 4) : w.frozen? ⟨g, o, none⟩ = false := there_frozen h.there ho
/-- limit -/
theorem blimit_any (w : World) (base g : Nat) (lv : Value) (hs : List (Nat × Value)) (b : B.Bn) (n : Int) (h : IsBench w base g lv hs b) (hn : -9223372036854775808 ≤ n ∧ n ≤ 9223372036854775807) :
    Calls Try.prog 47 #[.pointer (some ⟨g, 0, none⟩), .int .i64 n] w fun e w' => e = .returned (.tuple #[]) ∧ IsBench w' base g lv hs { b with left := if n < -1 then -1 else n } ∧ Fr (fun x => x = g) w w' := by
  have hc := h.cell.2.1
  have hz := h.frozen (o := 1) (by decide)
  have HH := Lib.hid h
  clear h
  have key : ∀ m : Int, IsBench (w.setCell ⟨g, 1, none⟩ (.int .i64 m)) base g lv hs { b with left := m } := fun m =>
    HH.out.setCells (Fr.cell (w := w) ⟨g, 1, none⟩ _) (rangeAt_setCell HH.out.cells (by show 1 < 4; decide)) (World.there_setCells HH.out.there g 1 [.int .i64 m]) rfl
  have HK := Lib.hid key
  clear key
  by_cases hlt : n < -1
  · rw [if_pos hlt]
    go_enter Try.func47, Try.ntmps47
    go_wp2
    all_goals
      go_end0
      refine ⟨rfl, ?_, Fr.cell (w := w) ⟨g, 1, none⟩ _⟩
      first | exact HK.out _ | (have e9 : n = -1 := by omega
                                rw [e9]; exact HK.out _)
  · rw [if_neg hlt]
    go_enter Try.func47, Try.ntmps47
    go_wp2
    all_goals
      go_end0
      refine ⟨rfl, ?_, Fr.cell (w := w) ⟨g, 1, none⟩ _⟩
      first | exact HK.out _ | (have e9 : n = -1 := by omega
                                rw [e9]; exact HK.out _)
/-- count: with no more to be done there is no power -/
theorem bcount_no (w : World) (base g : Nat) (lv : Value) (hs : List (Nat × Value)) (b : B.Bn) (h : IsBench w base g lv hs b) (h0 : b.left = 0) :
    Calls Try.prog 60 #[.pointer (some ⟨g, 0, none⟩)] w fun e w' => e = .returned (.bool false) ∧ IsBench w' base g lv hs { b with down := true } ∧ Fr (fun x => x = g) w w' := by
  have hc := h.cell.2.1
  rw [h0] at hc
  have hd := h.cell.2.2.1
  have hz := h.frozen (o := 2) (by decide)
  have HK : Hid (IsBench (w.setCell ⟨g, 2, none⟩ (.bool true)) base g lv hs { b with down := true }) :=
    h.setCells (Fr.cell (w := w) ⟨g, 2, none⟩ _) (rangeAt_setCell h.cells (by show 2 < 4; decide)) (World.there_setCells h.there g 2 [.bool true]) rfl
  clear h h0
  go_enter Try.func60, Try.ntmps60
  go_wp2
  go_ret
  exact ⟨rfl, HK.out, Fr.cell (w := w) ⟨g, 2, none⟩ _⟩
theorem bcount_yes (w : World) (base g : Nat) (lv : Value) (hs : List (Nat × Value)) (b : B.Bn) (h : IsBench w base g lv hs b) (h0 : b.left ≠ 0) (hw : -4611686018427387904 < b.writes ∧ b.writes < 4611686018427387904) (hl : -4611686018427387904 < b.left ∧ b.left ≤ 9223372036854775807) :
    Calls Try.prog 60 #[.pointer (some ⟨g, 0, none⟩)] w fun e w' => e = .returned (.bool true) ∧ IsBench w' base g lv hs (B.counted b) ∧ Fr (fun x => x = g) w w' := by
  obtain ⟨hc0, hc1, _, _⟩ := h.cell
  have hz0 := h.frozen (o := 0) (by decide)
  have hz1 := h.frozen (o := 1) (by decide)
  have hb : (b.left == 0) = false := by rw [beq_eq_false_iff_ne]; exact h0
  by_cases hp : 0 < b.left
  · have hcnt : B.counted b = { b with writes := b.writes + 1, left := b.left - 1 } := by unfold B.counted; rw [if_pos hp]
    have h1 : IsBench (w.setCell ⟨g, 1, none⟩ (.int .i64 (b.left - 1))) base g lv hs { b with left := b.left - 1 } :=
      h.setCells (Fr.cell (w := w) ⟨g, 1, none⟩ _) (rangeAt_setCell h.cells (by show 1 < 4; decide)) (World.there_setCells h.there g 1 [.int .i64 (b.left - 1)]) rfl
    have HK : Hid (IsBench ((w.setCell ⟨g, 1, none⟩ (.int .i64 (b.left - 1))).setCell ⟨g, 0, none⟩ (.int .i64 (b.writes + 1))) base g lv hs (B.counted b)) := by
      rw [hcnt]
      exact h1.setCells (Fr.cell ⟨g, 0, none⟩ _) (rangeAt_setCell h1.cells (by show 0 < 4; decide)) (World.there_setCells h1.there g 0 [.int .i64 (b.writes + 1)]) rfl
    have hc0' := h1.cell.1
    have hz0' := h1.frozen (o := 0) (by decide)
    have HF : Hid (Fr (fun x => x = g) w ((w.setCell ⟨g, 1, none⟩ (.int .i64 (b.left - 1))).setCell ⟨g, 0, none⟩ (.int .i64 (b.writes + 1)))) := (Fr.cell (w := w) ⟨g, 1, none⟩ _).trans (Fr.cell ⟨g, 0, none⟩ _)
    clear h h1 hcnt h0
    go_enter Try.func60, Try.ntmps60
    go_wp2
    go_ret
    exact ⟨rfl, HK.out, HF.out⟩
  · have hcnt : B.counted b = { b with writes := b.writes + 1 } := by unfold B.counted; rw [if_neg hp]
    have HK : Hid (IsBench (w.setCell ⟨g, 0, none⟩ (.int .i64 (b.writes + 1))) base g lv hs (B.counted b)) := by
      rw [hcnt]
      exact h.setCells (Fr.cell ⟨g, 0, none⟩ _) (rangeAt_setCell h.cells (by show 0 < 4; decide)) (World.there_setCells h.there g 0 [.int .i64 (b.writes + 1)]) rfl
    have HF : Hid (Fr (fun x => x = g) w (w.setCell ⟨g, 0, none⟩ (.int .i64 (b.writes + 1)))) := Fr.cell (w := w) ⟨g, 0, none⟩ _
    clear h hcnt h0
    go_enter Try.func60, Try.ntmps60
    go_wp2
    go_ret
    exact ⟨rfl, HK.out, HF.out⟩
end Go.Proofs.Ytggljcdkiaggeaa
