/- The walk of bench's Write. -/
import Derived.Test.YtggljcdkiaggeaaBenchW
namespace Go.Proofs.Ytggljcdkiaggeaa
open Go.RowKit
set_option linter.unusedVariables false
set_option linter.unusedSimpArgs false
set_option maxRecDepth 100000
set_option maxHeartbeats 1000000

theorem IsBench.small {w : World} {base g : Nat} {lv : Value} {hs : List (Nat × Value)} {b : B.Bn} (h : IsBench w base g lv hs b) (B0 : Nat) (w' : World) (S : Nat → Prop) (k : Fr S w w') (hS : ∀ x, S x → w.heap.size ≤ x) : IsBench w' base g lv hs b :=
  h.fr k (fun x hx hs2 => by have := h.lts x hx; have := hS x hs2; omega)
theorem bwrite_any (w : World) (base g : Nat) (lv : Value) (hs : List (Nat × Value)) (b : B.Bn) (d at' : Int) (bv : Value) (x : List Nat) (h : IsBench w base g lv hs b) (hx : Byt w bv x) (hap : ∀ y, bv.ownBlock = some y → ¬ ofB g lv hs y) (hb0 : base ≤ w.heap.size)
    (hsz : ∀ dk ∈ b.ds, (dk.p.length + 1) * 40 ≤ 140737488355328) (hw : -4611686018427387904 < b.writes ∧ b.writes < 4611686018427387904) (hl : -4611686018427387904 < b.left ∧ b.left ≤ 9223372036854775807) :
    Calls Try.prog 38 #[.pointer (some ⟨g, 0, none⟩), .int .i64 d, .int .i64 at', bv] w fun e w' => e = .returned (.int .i64 (B.writeE b d at' x)) ∧ ∃ hs', IsBench w' base g lv hs' (B.write b d at' x) ∧ Fr (ofB g lv hs) w w' ∧ ∀ y, ofB g lv hs' y → ofB g lv hs y ∨ w.heap.size ≤ y := by
  have HC := Lib.hid (bmay_any w base g lv hs b d h)
  by_cases hm : B.may b d ≠ 0
  · have HE : Hid (B.writeE b d at' x = B.may b d ∧ B.write b d at' x = b) := by
      unfold B.writeE B.write; rw [if_pos hm, if_pos hm]; exact ⟨rfl, rfl⟩
    rw [HE.out.1, HE.out.2]
    obtain ⟨m, hmm⟩ : ∃ m, m = B.may b d := ⟨_, rfl⟩
    rw [← hmm] at hm HC ⊢
    have hb : (m != 0) = true := by rw [bne_iff_ne]; exact hm
    have HH := Lib.hid h
    clear hm hmm h HE hx hap hsz hw hl
    go_enter Try.func38, Try.ntmps38
    go_wp2_with fail
    refine Calls.mono HC.out ?_
    rintro e w1 ⟨rfl, rfl⟩
    go_wp2
    go_ret
    exact ⟨rfl, hs, HH.out, Fr.refl _ _, fun y hy => .inl hy⟩
  · have hm0 : B.may b d = 0 := Classical.byContradiction hm
    rw [hm0] at HC
    obtain ⟨_, h0, h1⟩ := B.may_zero hm0
    obtain ⟨i, rfl⟩ := Int.eq_ofNat_of_zero_le h0
    have hc := h.cell.2.2.2
    obtain ⟨ao, cap, rfl, hcap, _⟩ := h.shape
    obtain ⟨bl, k, dk, rfl, hcell, hk, hdk, hD⟩ := h.get (i := i) (by omega)
    have hdkb : B.dk b (i : Int) = dk := B.dk_nat hdk
    have HD := Lib.hid hD
    have HH := Lib.hid h
    have HK := Lib.hid hk
    have HDK := Lib.hid hdk
    have hdm : dk ∈ b.ds := List.mem_of_getElem? hdk
    have HSZ := Lib.hid (hsz dk hdm)
    have hin : i < b.ds.length := by omega
    have HX := Lib.hid hx
    have HAP := Lib.hid hap
    have HWL := Lib.hid (And.intro hw hl)
    by_cases hp : putI dk at' x ≠ 0
    · have HE : Hid (B.writeE b (i : Int) at' x = putI dk at' x ∧ B.write b (i : Int) at' x = b) := by
        unfold B.writeE B.write; rw [if_neg hm, if_neg hm, hdkb, if_pos hp, if_pos hp]; exact ⟨rfl, rfl⟩
      rw [HE.out.1, HE.out.2]
      obtain ⟨m, hmm⟩ : ∃ m, m = putI dk at' x := ⟨_, rfl⟩
      have HM := Lib.hid hmm
      rw [← hmm] at hp ⊢
      have hb : (m != 0) = true := by rw [bne_iff_ne]; exact hp
      clear hm hm0 hmm h HE hx hap hsz hw hl hk hdk hD hdm hp hdkb
      go_enter Try.func38, Try.ntmps38
      go_wp2_with fail
      refine Calls.mono HC.out ?_
      rintro e w1 ⟨rfl, rfl⟩
      go_wp2_with fail
      refine Calls.mono (dclone_any w _ _ _ _ HD.out (by have := HSZ.out; omega)) ?_
      rintro e w1 ⟨pv1, rfl, E1, b1⟩
      go_wp2_with fail
      refine Calls.mono (writeA w1 _ _ _ _ at' bv x E1 (HX.out.up b1) b1.size HSZ.out) ?_
      rw [← HM.out]
      rintro e w2 ⟨rfl, pv2, E2, F2, p2⟩
      have B2 := F2.low b1 b1.size (fun y hy => E1.ges y hy)
      go_wp2
      go_ret
      exact ⟨rfl, hs, HH.out.up B2, Fr.of_below B2, fun y hy => .inl hy⟩
    · have hp0 : putI dk at' x = 0 := Classical.byContradiction hp
      have HP0 := Lib.hid hp0
      by_cases hl0 : b.left = 0
      · have HE : Hid (B.writeE b (i : Int) at' x = 6 ∧ B.write b (i : Int) at' x = { b with down := true }) := by
          unfold B.writeE B.write; rw [if_neg hm, if_neg hm, hdkb, if_neg hp, if_neg hp, if_pos hl0, if_pos hl0]; exact ⟨rfl, rfl⟩
        rw [HE.out.1, HE.out.2]
        have HL0 := Lib.hid hl0
        clear hm hm0 h HE hx hap hsz hw hl hk hdk hD hdm hp hp0 hdkb hl0
        go_enter Try.func38, Try.ntmps38
        go_wp2_with fail
        refine Calls.mono HC.out ?_
        rintro e w1 ⟨rfl, rfl⟩
        go_wp2_with fail
        refine Calls.mono (dclone_any w _ _ _ _ HD.out (by have := HSZ.out; omega)) ?_
        rintro e w1 ⟨pv1, rfl, E1, b1⟩
        go_wp2_with fail
        refine Calls.mono (writeA w1 _ _ _ _ at' bv x E1 (HX.out.up b1) b1.size HSZ.out) ?_
        rw [HP0.out]
        rintro e w2 ⟨rfl, pv2, E2, F2, p2⟩
        have B2 := F2.low b1 b1.size (fun y hy => E1.ges y hy)
        go_wp2_with fail
        refine Calls.mono (bcount_no w2 _ _ _ _ _ (HH.out.up B2) HL0.out) ?_
        rintro e w3 ⟨rfl, H3, F3⟩
        go_wp2
        go_ret
        exact ⟨rfl, hs, H3, (Fr.of_below B2).trans (F3.mono (fun y hy => .inl hy)), fun y hy => .inl hy⟩
      · have HE : Hid (B.writeE b (i : Int) at' x = 0 ∧ B.write b (i : Int) at' x = { B.counted b with ds := (B.counted b).ds.set i (D.wrote dk at' x) }) := by
          unfold B.writeE B.write; rw [if_neg hm, if_neg hm, hdkb, if_neg hp, if_neg hp, if_neg hl0, if_neg hl0]
          refine ⟨rfl, ?_⟩
          unfold B.setD D.wrote
          rw [if_pos hp0]
          rfl
        rw [HE.out.1, HE.out.2]
        have HL0 := Lib.hid hl0
        clear hm hm0 h HE hx hap hsz hw hl hk hdk hD hdm hp hp0 hdkb hl0
        go_enter Try.func38, Try.ntmps38
        go_wp2_with fail
        refine Calls.mono HC.out ?_
        rintro e w1 ⟨rfl, rfl⟩
        go_wp2_with fail
        refine Calls.mono (dclone_any w _ _ _ _ HD.out (by have := HSZ.out; omega)) ?_
        rintro e w1 ⟨pv1, rfl, E1, b1⟩
        go_wp2_with fail
        refine Calls.mono (writeA w1 _ _ _ _ at' bv x E1 (HX.out.up b1) b1.size HSZ.out) ?_
        rw [HP0.out]
        rintro e w2 ⟨rfl, pv2, E2, F2, p2⟩
        have B2 := F2.low b1 b1.size (fun y hy => E1.ges y hy)
        go_wp2_with fail
        refine Calls.mono (bcount_yes w2 _ _ _ _ _ (HH.out.up B2) HL0.out HWL.out.1 HWL.out.2) ?_
        rintro e w3 ⟨rfl, H3, F3⟩
        have hc3 := H3.cell.2.2.2
        obtain ⟨bl3, k3, dk3, e3, hcell3, hk3, hdk3, D3⟩ := H3.get (i := i) hin
        cases e3
        have ek : k3 = k := Option.some.inj (hk3.symm.trans HK.out)
        have ed : dk3 = dk := Option.some.inj (hdk3.symm.trans HDK.out)
        rw [ek] at hcell3 hk3 D3
        rw [ed] at D3 hdk3
        have HK3 := Lib.hid hk3
        have HX3 := Lib.hid (Byt.fr (HX.out.up B2) F3 (fun y hy e9 => HAP.out y hy (.inl e9)))
        have HD3 := Lib.hid D3
        have HH3 := Lib.hid H3
        have hs3 : base ≤ w3.heap.size := Nat.le_trans hb0 (Nat.le_trans B2.size F3.size)
        have hs23 : w.heap.size ≤ w3.heap.size := Nat.le_trans B2.size F3.size
        clear hk3 hdk3 D3 H3 ek ed
        go_wp2_with fail
        refine Calls.mono (writeA w3 _ _ _ _ at' bv x HD3.out HX3.out hs3 HSZ.out) ?_
        rw [HP0.out]
        rintro e w4 ⟨rfl, pv4, D4, F4, p4⟩
        obtain ⟨H4, G4, q4⟩ := HH3.out.setDisk HK3.out F4 D4 p4
        go_wp2
        go_ret
        refine ⟨rfl, _, H4, ((Fr.of_below B2).trans (F3.mono (fun y hy => .inl hy))).trans G4, fun y hy => ?_⟩
        rcases q4 y hy with h9 | h9
        · exact .inl h9
        · exact .inr (by omega)
end Go.Proofs.Ytggljcdkiaggeaa
