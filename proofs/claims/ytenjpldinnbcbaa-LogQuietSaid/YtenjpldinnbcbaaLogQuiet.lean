/- The law LogQuiet (chapter 12). True at every input. -/
import Derived.Test.YtenjpldinnbcbaaLqA
import Derived.Test.YtenjpldinnbcbaaLaY
import Derived.Deep.CutRange
import Derived.Deep.RegionHeld3
namespace Go.Proofs.Ytenjpldinnbcbaa
open Go.RowKit C
set_option linter.unusedVariables false
set_option linter.unusedSimpArgs false
set_option maxRecDepth 100000
set_option maxHeartbeats 2000000

/-- the items and their record's box on the way of the first loop -/
def QJ (w1 : World) (gr : Nat) (s : Int) (v : Value) (M : Nat) (X : World) : Prop :=
  ∃ T, T.length = M ∧ OwnI 56 X (w1.heap.size + 2) v T ∧ (∀ q ∈ T, ∀ b, q.2.ownBlock = some b → w1.heap.size + 2 ≤ b) ∧ Box X gr [.int .i64 s, v] ∧ Below w1.heap.size w1 X ∧ gr < X.heap.size
theorem QJ.put {w1 : World} {gr : Nat} {s : Int} {g M cap : Nat} {X : World} (h : QJ w1 gr s (.slice (some ⟨g, 0, none⟩) M cap) M X) {k : Nat} (hk : k < M) {d : Int} (hd : i64b d) (hg : g ≠ gr) : QJ w1 gr s (.slice (some ⟨g, 0, none⟩) M cap) M ((X.setCell ⟨g, k * 3, none⟩ (.int .i64 d)).drew) := by
  obtain ⟨T, hT, O, f, bx, bl, hl⟩ := h
  have hkT : k < T.length := by omega
  have hp := List.getElem?_eq_getElem hkT
  have hG := O.2 _ (List.getElem_mem hkT)
  have hge := O.ge g rfl
  have h1 := O.put hp 0 (by decide) (.int .i64 d) ((⟨d, T[k].1.a, T[k].1.b⟩ : RI), T[k].2) rfl ⟨hG.1, ⟨hd, hG.2.1.2⟩, hG.2.2⟩
  have hbd : Below (X.setCell ⟨g, k * 3, none⟩ (.int .i64 d)).heap.size (X.setCell ⟨g, k * 3, none⟩ (.int .i64 d)) ((X.setCell ⟨g, k * 3, none⟩ (.int .i64 d)).drew) := belDr (belR _)
  refine ⟨T.set k ((⟨d, T[k].1.a, T[k].1.b⟩ : RI), T[k].2), by rw [List.length_set]; exact hT, OwnI.up h1 hbd, fun q hq b hb => ?_, (bx.other (fun e => hg e.symm)).fr (Fr.of_below (S := fun _ => False) hbd) id, (bl.setCell (by show w1.heap.size ≤ g; omega) _).trans (hbd.mono (by have := bl.size; simp [World.setCell]; omega)), ?_⟩
  · rcases List.mem_or_eq_of_mem_set hq with h' | h'
    · exact f q h' b hb
    · rw [h'] at hb; exact f _ (List.getElem_mem hkT) b hb
  · have e : (X.setCell ⟨g, k * 3, none⟩ (.int .i64 d)).drew.heap.size = X.heap.size := by simp [World.setCell]
    rw [e]; exact hl
theorem wq0 (k : Nat) (h : k < 52) : wrap64 (k : Int) = (k : Int) := by unfold wrap64; omega
theorem wq1 (a b : Nat) (h : a < 52) (hb : b = 36 + a) : IntKind.i64.wrap (36 + (a : Int)) = (b : Int) := by rw [IntKind.wrap_i64]; omega
theorem wq2 (a b : Nat) (h : a < 52) (hb : b = 36 + a) : wrap64 (36 + (a : Int)) = (b : Int) := by unfold wrap64; omega
theorem wq3 (i d : Nat) (h : d = i % 4) : (d : Int) < 4 := by omega
theorem wq4 (i d : Nat) (h : d = i % 4) : d < 4 := by omega
theorem wq5 (i a b : Nat) (hi : i < 64) (h : a = i / 4) (hb : b = 36 + a) : b < 52 := by omega
theorem wq6 (i a : Nat) (hi : i < 64) (h : a = i / 4) : a < 52 := by omega
theorem OwnI.good {e : TypeId} {w : World} {base : Nat} {v : Value} {T : List (RI × Value)} (h : OwnI e w base v T) {k : Nat} (hk : k < T.length) : i64b (T[k]).1.d := (h.2 _ (List.getElem_mem hk)).2.1.1
theorem ints_at {w : World} {ao : Option Addr} {n cap : Nat} {l : List Int} (h : Ints w (.slice ao n cap) l) {k : Nat} (hk : k < l.length) : ∃ b off, ao = some ⟨b, off, none⟩ ∧ w.cell? ⟨b, off + k, none⟩ = some (.int .i64 (l.getD k (k : Int))) ∧ i64b (l.getD k (k : Int)) := by
  obtain ⟨b, off, x, e, hx, hl, hb⟩ := h.cellAt hk
  have e2 : l.getD k (k : Int) = x := by rw [List.getD_eq_getElem?_getD, hl.out]; rfl
  rw [e2]
  exact ⟨b, off, e, hx, hb⟩
attribute [local irreducible] Go.Calls Byt Own Parts PA BA Bools OwnD OwnT OwnZ Items ItemsF IA OwnI Ints
theorem logQuiet_law (W : World) (lw : Value) (l : List Int) (hl : Ints W lw l) (hb : l.length * 8 ≤ 140737488351232) (m : Int) (hm : -9223372036854775808 ≤ m ∧ m ≤ 9223372036854775807) (alive : Int) (hal : -9223372036854775808 ≤ alive ∧ alive ≤ 9223372036854775807) (kw : Value) (bk : List Int) (hbk : Ints W kw bk) (hb2 : bk.length * 8 ≤ 140737488351232) :
    Calls Try.prog 11 #[lw, .int .i64 m, .int .i64 alive, kw] W fun e W' => e = .returned (.bool true) ∧ Below W.heap.size W W' := by
  obtain ⟨k, ek, lk, Wk⟩ := within_nat m 4 (by decide) (by decide) hm
  clear ek
  obtain ⟨xs, hxs⟩ : ∃ xs : Nat → Int, xs = fun i => bk.getD i (i : Int) := ⟨_, rfl⟩
  have HXS : Hid (∀ i, xs i = bk.getD i (i : Int)) := Lib.hid (fun i => by rw [hxs])
  have HL := Lib.hid hl
  have HBK := Lib.hid hbk
  have LV := Lib.hid (fun X => live2_any alive 4 X (by decide) (by decide) hal)
  obtain ⟨al0, cl0, rfl, _, _⟩ := hl.shapeI
  obtain ⟨ab0, cb0, rfl, _, _⟩ := hbk.shapeI
  obtain ⟨n, hn⟩ : ∃ n, n = l.length := ⟨_, rfl⟩
  obtain ⟨nb, hnb⟩ : ∃ n, n = bk.length := ⟨_, rfl⟩
  rw [← hn] at HL ⊢
  rw [← hnb] at HBK ⊢
  have HNB := Lib.hid hnb
  clear hm hal hl hbk hn hnb hb hb2 hxs
  go_enter Try.func11, Try.ntmps11
  go_wp2_with fail
  refine Calls.mono (bnew_any W 4 (by decide) (by decide)) ?_
  rintro r w1 ⟨rfl, ⟨lv, hs, I1⟩, bl1⟩
  have hlt1 := Lib.hid I1.lts
  have hsz1 : W.heap.size < w1.heap.size := I1.lt
  have I1 := Lib.hid I1
  have BL1 := Lib.hid bl1
  clear bl1
  go_wp2_with fail
  refine Calls.mono (Wk.out _) ?_
  rintro r w2 ⟨rfl, rfl⟩
  go_wp2_with fail
  refine Calls.mono (of11_any 9 (k : Int) _ l _ (by unfold i64b; omega) (by unfold i64b; omega) (HL.out.up BL1.out)) ?_
  intro r w2 hOf
  obtain ⟨s, v, T0, rfl, hsi, OT, fT, lT, sT, bl2⟩ := hOf
  have HSI := Lib.hid hsi
  have HVG := Lib.hid OT.lt
  have hsz2 : w1.heap.size ≤ w2.heap.size := bl2.size
  obtain ⟨av, cv, rfl, hcv1, hcv2, _⟩ := OT.shape
  obtain ⟨M, hM⟩ : ∃ M, M = T0.length := ⟨_, rfl⟩
  rw [← hM] at OT HVG hcv1 ⊢
  have HM6 : M ≤ 6 := by omega
  have Q0 : Hid (QJ w1 w2.heap.size s (.slice av M cv) M (w2.alloc (.cells #[.int .i64 s, .slice av M cv] 59))) :=
    ⟨T0, hM.symm, OT.up (belA1 (belR _)), fT, Box.new w2 [.int .i64 s, .slice av M cv] 59, belT bl2 (belA1 (belR _)), by simp⟩
  clear OT fT lT sT bl2 hsi hM HL
  go_wp2_with fail
  go_loopw [40] (fun kv X => ∃ k : Nat, k ≤ M ∧ kv = .int .i64 k ∧ Hid (QJ w1 w2.heap.size s (.slice av M cv) M X)) (fun kv _ => M - (intOf kv).toNat)
  case atStart => exact ⟨0, Nat.zero_le _, rfl, Q0⟩
  case round =>
    obtain ⟨k, hkM, rfl, HQ⟩ := hrel
    by_cases hlt : k < M
    · have k1 : (k : Int) < (M : Int) := by omega
      have k0 : (0 : Int) ≤ (k : Int) := by omega
      have k2 : IntKind.i64.wrap ((k : Int) + 1) = ((k + 1 : Nat) : Int) := by rw [IntKind.wrap_i64]; omega
      have HKL := Lib.hid hlt
      obtain ⟨T, hT, O, f, bx, bl, hgl⟩ := HQ.out
      obtain ⟨gi, ci, hve, _, _, _⟩ := O.shape1 (by omega)
      obtain ⟨rfl, hM2, rfl⟩ : av = some ⟨gi, 0, none⟩ ∧ M = T.length ∧ cv = ci := by cases hve; exact ⟨rfl, rfl, rfl⟩
      have hpk := List.getElem?_eq_getElem (show k < T.length by omega)
      obtain ⟨e0, e1, e2⟩ := O.cellsAt hpk
      have y0 := O.free (k * 3)
      have hgi := O.ge gi rfl
      have hgne : gi ≠ w2.heap.size := by have := HVG.out gi rfl; omega
      have hdb := O.good (show k < T.length by omega)
      obtain ⟨xd, hxd⟩ : ∃ xd, xd = (T[k]'(by omega)).1.d := ⟨_, rfl⟩
      rw [← hxd] at e0 hdb
      obtain ⟨⟨c0, c1⟩, _, _⟩ := bx.two
      obtain ⟨dw, edw, ldw, WD⟩ := within_nat xd 4 (by decide) (by decide) hdb
      have HNX := Lib.hid (HQ.out.put hlt (d := (dw : Int)) (by unfold i64b; omega) hgne)
      have HCS : Hid ((wr.setCell ⟨gi, k * 3, none⟩ (.int .i64 (dw : Int))).cell? ⟨w2.heap.size, 1, none⟩ = some (.slice (some ⟨gi, 0, none⟩) M cv)) := (World.cell?_setCell_other _ _ _ _ (by intro e; have := congrArg Addr.block e; simp at this; omega)).trans c1
      clear hT O f bx bl hgl hve hpk e1 e2 hdb hxd edw hlt hkM HQ hM2
      go_wp2_with fail
      refine wp_region_held_drew (S := fun Y => Y.cell? ⟨w2.heap.size, 1, none⟩ = some (.slice (some ⟨gi, 0, none⟩) M cv)) (by kernel_rfl) (show World.cell? _ _ = _ from by first | exact c1 | exact HCS.out) (fun hHeld => ?_)
      refine wpAnyH_take (i := 0) (oi := _) (v := ?_) rfl (by kernel_rfl) (by kernel_rfl) (by kernel_rfl) (fun _ _ _ h => h) (Or.inl ⟨by rfl, ?_⟩) (by assumption) ?_
      rotate_left
      · intro w hSw
        (try dsimp only at hSw)
        go_simp
        try with_reducible rfl
      try simp only [Act.put, List.getElem_toArray, List.getElem_cons_zero, List.getElem_cons_succ, List.setIfInBounds_toArray, List.set_cons_zero, List.set_cons_succ]
      refine wpAnyH_take (i := 2) (oi := _) (v := ?_) rfl (by kernel_rfl) (by kernel_rfl) (by kernel_rfl) (fun _ _ _ h => h) (Or.inl ⟨by rfl, ?_⟩) (by assumption) ?_
      rotate_left
      · intro w hSw
        (try dsimp only at hSw)
        go_simp
        try with_reducible rfl
      try simp only [Act.put, List.getElem_toArray, List.getElem_cons_zero, List.getElem_cons_succ, List.setIfInBounds_toArray, List.set_cons_zero, List.set_cons_succ]
      refine wpAnyH_take (i := 3) (oi := _) (v := ?_) rfl (by kernel_rfl) (by kernel_rfl) (by kernel_rfl) (fun _ _ _ h => h) (Or.inl ⟨by rfl, ?_⟩) (by assumption) ?_
      rotate_left
      · intro w hSw
        (try dsimp only at hSw)
        go_simp
        try with_reducible rfl
      try simp only [Act.put, List.getElem_toArray, List.getElem_cons_zero, List.getElem_cons_succ, List.setIfInBounds_toArray, List.set_cons_zero, List.set_cons_succ]
      refine wpAnyH_take (i := 5) (oi := _) (v := ?_) rfl (by kernel_rfl) (by kernel_rfl) (by kernel_rfl) (fun _ _ _ h => h) (Or.inl ⟨by rfl, ?_⟩) (by assumption) ?_
      rotate_left
      · intro w hSw
        (try dsimp only at hSw)
        go_simp
        try with_reducible rfl
      try simp only [Act.put, List.getElem_toArray, List.getElem_cons_zero, List.getElem_cons_succ, List.setIfInBounds_toArray, List.set_cons_zero, List.set_cons_succ]
      refine wpAnyH_take (i := 1) (oi := _) (v := ?_) rfl (by kernel_rfl) (by kernel_rfl) (by kernel_rfl) (fun _ _ _ h => h) (Or.inl ⟨by rfl, ?_⟩) (by assumption) ?_
      rotate_left
      · intro w hSw
        (try dsimp only at hSw)
        go_simp
        try with_reducible rfl
      try simp only [Act.put, List.getElem_toArray, List.getElem_cons_zero, List.getElem_cons_succ, List.setIfInBounds_toArray, List.set_cons_zero, List.set_cons_succ]
      refine wpAnyH_take (i := 4) (oi := _) (v := ?_) rfl (by kernel_rfl) (by kernel_rfl) (by kernel_rfl) (fun _ _ _ h => h) (Or.inl ⟨by rfl, ?_⟩) (by assumption) ?_
      rotate_left
      · intro w hSw
        (try dsimp only at hSw)
        go_simp
        try with_reducible rfl
      try simp only [Act.put, List.getElem_toArray, List.getElem_cons_zero, List.getElem_cons_succ, List.setIfInBounds_toArray, List.set_cons_zero, List.set_cons_succ]
      refine wpAnyH_take (i := 6) (oi := _) (v := ?_) rfl (by kernel_rfl) (by kernel_rfl) (by kernel_rfl) (fun _ _ _ h => h) (Or.inl ⟨by rfl, ?_⟩) (by assumption) ?_
      rotate_left
      · intro w hSw
        (try dsimp only at hSw)
        go_simp
        try with_reducible rfl
      try simp only [Act.put, List.getElem_toArray, List.getElem_cons_zero, List.getElem_cons_succ, List.setIfInBounds_toArray, List.set_cons_zero, List.set_cons_succ]
      refine wpAnyH_take (i := 7) (oi := _) (v := ?_) rfl (by kernel_rfl) (by kernel_rfl) (by kernel_rfl) (fun _ _ _ h => h) (Or.inl ⟨by rfl, ?_⟩) (by assumption) ?_
      rotate_left
      · intro w hSw
        (try dsimp only at hSw)
        go_simp
        try with_reducible rfl
      try simp only [Act.put, List.getElem_toArray, List.getElem_cons_zero, List.getElem_cons_succ, List.setIfInBounds_toArray, List.set_cons_zero, List.set_cons_succ]
      refine wpAnyH_ready (rs := [8]) (by kernel_rfl) (by simp) ?_
      refine AllReadyH.cons (o := _) rfl (fun K hK => ?_) AllReadyH.nil
      go_simp
      refine hK.out _ _ (show World.cell? _ _ = _ from by first | exact c1 | exact HCS.out) (fun hHeld => ?_)
      clear hK K
      try simp only [Act.put, List.getElem_toArray, List.getElem_cons_zero, List.getElem_cons_succ, List.setIfInBounds_toArray, List.set_cons_zero, List.set_cons_succ]
      refine wpAnyH_ready (rs := [9]) (by kernel_rfl) (by simp) ?_
      refine AllReadyH.cons (o := _) rfl (fun K hK => ?_) AllReadyH.nil
      go_simp
      refine Calls.mono (WD.out _) ?_
      rintro r wa ⟨rfl, rfl⟩
      try go_simp
      refine hK.out _ _ (show World.cell? _ _ = _ from by first | exact c1 | exact HCS.out) (fun hHeld => ?_)
      clear hK K
      try simp only [Act.put, List.getElem_toArray, List.getElem_cons_zero, List.getElem_cons_succ, List.setIfInBounds_toArray, List.set_cons_zero, List.set_cons_succ]
      refine wpAnyH_take (i := 10) (oi := _) (v := ?_) rfl (by kernel_rfl) (by kernel_rfl) (by kernel_rfl) (fun _ _ _ h => h) (Or.inl ⟨by rfl, ?_⟩) (by assumption) ?_
      rotate_left
      · intro w hSw
        (try dsimp only at hSw)
        go_simp
        try with_reducible rfl
      try simp only [Act.put, List.getElem_toArray, List.getElem_cons_zero, List.getElem_cons_succ, List.setIfInBounds_toArray, List.set_cons_zero, List.set_cons_succ]
      refine wpAnyH_take (i := 11) (oi := _) (v := ?_) rfl (by kernel_rfl) (by kernel_rfl) (by kernel_rfl) (fun _ _ _ h => h) (Or.inl ⟨by rfl, ?_⟩) (by assumption) ?_
      rotate_left
      · intro w hSw
        (try dsimp only at hSw)
        go_simp
        try with_reducible rfl
      try simp only [Act.put, List.getElem_toArray, List.getElem_cons_zero, List.getElem_cons_succ, List.setIfInBounds_toArray, List.set_cons_zero, List.set_cons_succ]
      refine wpAnyH_ready (rs := [12]) (by kernel_rfl) (by simp) ?_
      refine AllReadyH.cons (o := _) rfl (fun K hK => ?_) AllReadyH.nil
      go_simp
      refine hK.out _ _ (show World.cell? _ _ = _ from by first | exact c1 | exact HCS.out) (fun hHeld => ?_)
      clear hK K
      try simp only [Act.put, List.getElem_toArray, List.getElem_cons_zero, List.getElem_cons_succ, List.setIfInBounds_toArray, List.set_cons_zero, List.set_cons_succ]
      refine wpAnyH_done (by kernel_rfl) ?_ _
      go_wp2
      go_roundw
      case rel => exact ⟨k + 1, HKL.out, by go_num, HNX⟩
      case measure => have := HKL.out; simp [intOf]; omega
    · obtain rfl : M = k := by omega
      obtain ⟨T, hT, O, f, bx, bl, hgl⟩ := HQ.out
      obtain ⟨L, hL⟩ : ∃ L, L = T.map Prod.fst := ⟨_, rfl⟩
      have IA3 := O.ia f (S := ofB W.heap.size lv hs) (fun y hy => by have := hlt1.out y hy; omega)
      rw [← hL] at IA3
      have HKE : Hid (M = L.length) := by show _ = _; rw [hL, List.length_map]; exact hT.symm
      have HCK := rcheck_any s _ L wr HSI.out IA3.items
      obtain ⟨⟨c0, c1⟩, _, _⟩ := bx.two
      have IA3 := Lib.hid IA3
      have BX3 := Lib.hid bx
      have BW3 := Lib.hid (belT BL1.out bl)
      have I3 := Lib.hid (I1.out.up bl)
      have HGL := Lib.hid hgl
      clear hT O f bx bl hL hlt hkM HQ Q0
      by_cases hk : rok s L = true
      · have HK := Lib.hid hk
        rw [rerr_yes hk] at HCK
        have HCK := Lib.hid HCK
        clear hk
        go_wp2_with fail
        refine Calls.mono HCK.out ?_
        rintro r w4 ⟨rfl, bl4⟩
        have IA4 := Lib.hid (IA3.out.up bl4)
        have BX4 := Lib.hid (BX3.out.fr (Fr.of_below (S := fun _ => False) bl4) id)
        have BW4 := Lib.hid (belT BW3.out bl4)
        have I4 := Lib.hid (I3.out.up bl4)
        have hgr4 : w2.heap.size < w4.heap.size := by have := HGL.out; have := bl4.size; omega
        have S0 : Hid (∃ c, SX w4 W.heap.size W.heap.size lv hs w4 c ∧ QI xs c 0) := ⟨B.fresh 4, ⟨hs, I4.out, Fr.refl _ _, fun y hy => .inl hy⟩, QI.zero xs⟩
        clear c0 c1 HCK bl4 IA3 BX3 BW3 I3 HGL
        go_wp2
        go_loopw [13] (fun iv X => ∃ i : Nat, i ≤ 64 ∧ iv = .int .i64 i ∧ Hid (∃ c, SX w4 W.heap.size W.heap.size lv hs X c ∧ QI xs c i)) (fun iv _ => 64 - (intOf iv).toNat)
        case atStart => exact ⟨0, Nat.zero_le _, rfl, S0⟩
        case round =>
          obtain ⟨i, hi3, rfl, HM⟩ := hrel
          by_cases hlt : i < 64
          · have i1 : (i : Int) < 64 := by omega
            have i1' : decide ((i : Int) < 64) = true := decide_eq_true i1
            have i0 : (0 : Int) ≤ (i : Int) := by omega
            have i2 : IntKind.i64.wrap ((i : Int) + 1) = ((i + 1 : Nat) : Int) := by rw [IntKind.wrap_i64]; omega
            obtain ⟨d4, hd4⟩ : ∃ d4, d4 = i % 4 := ⟨_, rfl⟩
            obtain ⟨a4, ha4⟩ : ∃ a4, a4 = i / 4 := ⟨_, rfl⟩
            obtain ⟨a5, ha5⟩ : ∃ a5, a5 = 36 + a4 := ⟨_, rfl⟩
            have hA4 : a4 < 52 := wq6 i a4 hlt ha4
            have i6 := wq1 a4 a5 hA4 ha5
            have i7 := wq2 a4 a5 hA4 ha5
            have HI := Lib.hid (show i < 64 ∧ d4 = i % 4 ∧ a5 = 36 + i / 4 ∧ d4 < 4 ∧ a5 < 52 from ⟨hlt, hd4, by rw [ha5, ha4], wq4 i d4 hd4, wq5 i a4 a5 hlt ha4 ha5⟩)
            have i3 : ((i : Int)).tmod 4 = (d4 : Int) := by rw [hd4]; rfl
            have i4 : ((i : Int)).tdiv 4 = (a4 : Int) := by rw [ha4]; rfl
            clear hlt hi3 hd4 ha4 ha5
            go_upto_if 68 with (fail)
            go_cut [14] from 68 to 72 (fun kv X => kv = .int .i64 (xs i) ∧ Hid (i64b (xs i)) ∧ wr = X)
            case first =>
              by_cases hil : i < nb
              · have hl1 : decide ((i : Int) < (nb : Int)) = true := decide_eq_true (by omega)
                have hl2 : ((i : Int) < (nb : Int)) = True := eq_true (by omega)
                have hl3 : decide (i < nb) = true := decide_eq_true hil
                have hl4 : (i < nb) = True := eq_true hil
                have hBW : Below W.heap.size W wr := by
                  obtain ⟨c, ⟨hs1, I1', F1, q1⟩, _⟩ := HM.out
                  exact Fr.below BW4.out F1 BW4.out.size I4.out.ges
                obtain ⟨bb, ob, hbo, hcc, har⟩ := ints_at (HBK.out.up hBW) (k := i) (by rw [← HNB.out]; exact hil)
                rw [← HXS.out i] at hcc har
                subst hbo
                have HAR := Lib.hid har
                clear har hBW
                go_wp2_with fail
                go_meet
                case rel => exact ⟨rfl, HAR, rfl⟩
              · have hl1 : decide ((i : Int) < (nb : Int)) = false := decide_eq_false (by omega)
                have hl2 : ((i : Int) < (nb : Int)) = False := eq_false (by omega)
                have hl3 : decide (i < nb) = false := decide_eq_false hil
                have hl4 : (i < nb) = False := eq_false hil
                have hxi : xs i = (i : Int) := by rw [HXS.out, List.getD_eq_getElem?_getD, List.getElem?_eq_none (by rw [← HNB.out]; omega)]; rfl
                have HXI : Hid (Value.int .i64 (i : Int) = .int .i64 (xs i)) := by show _ = _; rw [hxi]
                have HAR : Hid (i64b (xs i)) := by rw [hxi]; exact Lib.hid (by have := HI.out; unfold i64b; omega)
                clear hxi
                go_wp2_with fail
                go_meet
                case rel => exact ⟨HXI.out, HAR, rfl⟩
            obtain ⟨rfl, HKB, rfl⟩ := hcut
            obtain ⟨c, ⟨hs1, I1', F1, q1⟩, O1⟩ := HM.out
            have IB := Lib.hid I1'
            have O1 := Lib.hid O1
            have FQ := Lib.hid (And.intro F1 q1)
            have hsz : w4.heap.size ≤ wr.heap.size := F1.size
            clear HM I1' F1 q1
            go_wp2_with fail
            refine Calls.mono (sector_any (xs i) wr HKB.out) ?_
            rintro r w5 ⟨xv, rfl, O5, b5⟩
            have HDM := bdmg_any w5 _ _ _ _ _ d4 a5 xv _ (IB.out.up b5) (by rw [O1.out.len]; exact HI.out.2.2.2.1) O5.byt (Nat.le_trans (Nat.le_trans BW4.out.size hsz) b5.size) O1.out.small
            have HNXC : Hid (QI xs (B.dmgB c d4 a5 (secL (xs i))) (i + 1)) := by
              have := O1.out.dmg HI.out.1
              rw [← HI.out.2.1, ← HI.out.2.2.1] at this
              exact Lib.hid this
            have HDM := Lib.hid HDM
            have FQ5 := Lib.hid (And.intro (FQ.out.1.trans (Fr.of_below b5)) FQ.out.2)
            obtain ⟨ao, cap, rfl, _, _⟩ := O5.byt.shape
            clear O5 b5
            go_wp2_with fail
            refine Calls.mono HDM.out ?_
            rintro r w6 ⟨⟨er, rfl⟩, hs6, I6, F6, q6⟩
            have HNX : Hid (∃ c, SX w4 W.heap.size W.heap.size lv hs w6 c ∧ QI xs c (i + 1)) := ⟨_, SX.next FQ5.out.1 FQ5.out.2 I6 F6 q6, HNXC.out⟩
            clear I6 F6 q6 HDM
            go_wp2
            go_roundw
            case rel => exact ⟨i + 1, HI.out.1, by go_num, HNX⟩
            case measure => have := HI.out; simp [intOf]; omega
          · have hie : i = 64 := by omega
            subst hie
            obtain ⟨c, ⟨hs1, I1', F1, q1⟩, O1⟩ := HM.out
            have IB := Lib.hid I1'
            have O1 := Lib.hid O1
            have IAX := Lib.hid (IA4.out.step F1 q1)
            have BXX := Lib.hid (BX4.out.fr F1 (fun h => by have := hlt1.out _ h; omega))
            have HGX : Hid (¬ ofB W.heap.size lv hs1 w2.heap.size) := Lib.hid (fun h => by
              rcases q1 _ h with h | h
              · have := hlt1.out _ h; omega
              · omega)
            have BWX := Lib.hid (Fr.below BW4.out F1 BW4.out.size I4.out.ges)
            clear HM I1' F1 q1 S0 hi3 hlt IA4 BX4 I4
            go_wp2_with fail
            refine Calls.mono (LV.out _) ?_
            rintro r w5 ⟨vv, lvs, rfl, hlen, hal2, T5, b5⟩
            obtain ⟨a2, c2, rfl, _, _⟩ := T5.bools.shapeB
            rw [hlen]
            rw [hlen] at T5
            have HLEN := Lib.hid hlen
            have I5 := Lib.hid (IB.out.up b5)
            have LV5 := Lib.hid (T5.ba (S := ofB W.heap.size lv hs1) (fun y hy => IB.out.lts y hy))
            have IA5 := Lib.hid (IAX.out.up b5)
            have BX5 := Lib.hid (BXX.out.fr (Fr.of_below (S := fun _ => False) b5) id)
            have BW5 := Lib.hid (belT BWX.out b5)
            have hsm := O1.out.small
            have HAP := Lib.hid (lapply_yes w5 _ _ _ _ _ _ _ s _ L I5.out O1.out.pw (by have := BW5.out.size; omega) LV5.out IA5.out HK.out (by rw [O1.out.len]; decide) hsm (by rw [O1.out.w]; decide))
            obtain ⟨⟨c0, c1⟩, _, _⟩ := BX5.out.two
            clear hal2 T5 b5 hsm IAX BXX BWX
            go_wp2_with fail
            refine Calls.mono HAP.out ?_
            rintro r w6 ⟨rfl, hs6, I6, F6, q6⟩
            obtain ⟨C, hC⟩ : ∃ C, C = B.applyB c lvs L := ⟨_, rfl⟩
            have HZ := O1.out.apply lvs (rok_fine HK.out) IA5.out.items.bytes ((rok_iff _ _).1 HK.out).2.1
            rw [← hC] at I6 HZ
            have HZ := Lib.hid HZ
            have LV6 := Lib.hid (LV5.out.step F6 q6)
            have IT6 := Lib.hid (IA5.out.step F6 q6)
            have BX6 := Lib.hid (BX5.out.fr F6 HGX.out)
            have BW6 := Lib.hid (Fr.below BW5.out F6 BW5.out.size I5.out.ges)
            have HPD := bpending_any w6 _ _ _ _ C I6 (by rw [HZ.out.2.2.1]; decide)
            rw [HZ.out.2.2.1] at HPD
            have HPD := Lib.hid HPD
            have I6 := Lib.hid I6
            clear hC F6 q6 HAP c0 c1 LV5 IA5 BX5 BW5 I5 O1 IB
            go_wp2_with fail
            refine Calls.mono HPD.out ?_
            rintro r w7 ⟨rfl, rfl⟩
            go_wp2
            go_loopw [16] (fun iv X => ∃ i : Nat, i ≤ 64 ∧ iv = .int .i64 i ∧ Below w6.heap.size w6 X) (fun iv _ => 64 - (intOf iv).toNat)
            case atStart => exact ⟨0, Nat.zero_le _, rfl, belR _⟩
            case round =>
              obtain ⟨i, hi3, rfl, BX⟩ := hrel
              by_cases hlt : i < 64
              · have i1 : (i : Int) < 64 := by omega
                have i1' : decide ((i : Int) < 64) = true := decide_eq_true i1
                have i0 : (0 : Int) ≤ (i : Int) := by omega
                have i2 : IntKind.i64.wrap ((i : Int) + 1) = ((i + 1 : Nat) : Int) := by rw [IntKind.wrap_i64]; omega
                obtain ⟨d4, hd4⟩ : ∃ d4, d4 = i % 4 := ⟨_, rfl⟩
                obtain ⟨a4, ha4⟩ : ∃ a4, a4 = i / 4 := ⟨_, rfl⟩
                obtain ⟨a5, ha5⟩ : ∃ a5, a5 = 36 + a4 := ⟨_, rfl⟩
                have hA4 : a4 < 52 := wq6 i a4 hlt ha4
                have i6 := wq1 a4 a5 hA4 ha5
                have i7 := wq2 a4 a5 hA4 ha5
                have d40 : (0 : Int) ≤ (d4 : Int) := Int.natCast_nonneg _
                have d44 : (d4 : Int) < 4 := wq3 i d4 hd4
                have HI := Lib.hid (show i < 64 ∧ d4 = i % 4 ∧ a5 = 36 + i / 4 ∧ d4 < 4 ∧ a5 < 52 from ⟨hlt, hd4, by rw [ha5, ha4], wq4 i d4 hd4, wq5 i a4 a5 hlt ha4 ha5⟩)
                have i3 : ((i : Int)).tmod 4 = (d4 : Int) := by rw [hd4]; rfl
                have i4 : ((i : Int)).tdiv 4 = (a4 : Int) := by rw [ha4]; rfl
                clear hlt hi3 hd4 ha4 ha5
                go_upto_if 102 with (fail)
                go_cut [17] from 102 to 106 (fun kv X => kv = .int .i64 (xs i) ∧ Hid (i64b (xs i)) ∧ wr = X)
                case first =>
                  by_cases hil : i < nb
                  · have hl1 : decide ((i : Int) < (nb : Int)) = true := decide_eq_true (by omega)
                    have hl2 : ((i : Int) < (nb : Int)) = True := eq_true (by omega)
                    have hl3 : decide (i < nb) = true := decide_eq_true hil
                    have hl4 : (i < nb) = True := eq_true hil
                    have hBW : Below W.heap.size W wr := belT BW6.out BX
                    obtain ⟨bb, ob, hbo, hcc, har⟩ := ints_at (HBK.out.up hBW) (k := i) (by rw [← HNB.out]; exact hil)
                    rw [← HXS.out i] at hcc har
                    subst hbo
                    have HAR := Lib.hid har
                    clear har hBW
                    go_wp2_with fail
                    go_meet
                    case rel => exact ⟨rfl, HAR, rfl⟩
                  · have hl1 : decide ((i : Int) < (nb : Int)) = false := decide_eq_false (by omega)
                    have hl2 : ((i : Int) < (nb : Int)) = False := eq_false (by omega)
                    have hl3 : decide (i < nb) = false := decide_eq_false hil
                    have hl4 : (i < nb) = False := eq_false hil
                    have hxi : xs i = (i : Int) := by rw [HXS.out, List.getD_eq_getElem?_getD, List.getElem?_eq_none (by rw [← HNB.out]; omega)]; rfl
                    have HXI : Hid (Value.int .i64 (i : Int) = .int .i64 (xs i)) := by show _ = _; rw [hxi]
                    have HAR : Hid (i64b (xs i)) := by rw [hxi]; exact Lib.hid (by have := HI.out; unfold i64b; omega)
                    clear hxi
                    go_wp2_with fail
                    go_meet
                    case rel => exact ⟨HXI.out, HAR, rfl⟩
                obtain ⟨rfl, HKB, rfl⟩ := hcut
                go_wp2_with fail
                refine Calls.mono (sector_any (xs i) wr HKB.out) ?_
                rintro r w8 ⟨sv, rfl, O8, b8⟩
                have BX8 := belT BX b8
                have hbx := (BX6.out.fr (Fr.of_below (S := fun _ => False) BX8) id).two.1
                obtain ⟨c0, c1⟩ := hbx
                have O8 := Lib.hid O8.byt
                obtain ⟨a8, c8, rfl, _, _⟩ := O8.out.shape
                clear b8 BX
                go_wp2
                go_loopw [18, 112] (fun ov kv X => ∃ (k : Nat) (z : List Nat) (sv : Value), k ≤ M ∧ kv = .int .i64 k ∧ sv = ov ∧ Hid (Byt X sv z) ∧ Hid (z = (L.take k).foldl (wantS lvs i) (secL (xs i))) ∧ Below w6.heap.size w6 X) (fun _ kv _ => M - (intOf kv).toNat)
                case atStart => exact ⟨0, _, _, Nat.zero_le _, rfl, rfl, O8, Lib.hid rfl, BX8⟩
                case round =>
                  clear c0 c1
                  obtain ⟨k, z, sv, hkM, rfl, rfl, HBY, HZZ, BY⟩ := hrel
                  by_cases hlt : k < M
                  · have k1 : (k : Int) < (M : Int) := by omega
                    have k0 : (0 : Int) ≤ (k : Int) := by omega
                    have k2 : IntKind.i64.wrap ((k : Int) + 1) = ((k + 1 : Nat) : Int) := by rw [IntKind.wrap_i64]; omega
                    have HKL := Lib.hid hlt
                    obtain ⟨ib, io, x, u, hai, hil, hix, hit, hux⟩ := (IT6.out.up BY).get hlt
                    have HAI := Lib.hid hai
                    subst hai
                    have hTK : L.take (k + 1) = L.take k ++ [x] := take_succ_get hix.out
                    obtain ⟨xd, xa, xb⟩ := x
                    obtain ⟨e0, e1, e2, ey, i8, i9⟩ := hit
                    dsimp only at e0 e1 e2 ey i8 i9
                    obtain ⟨au, cu, rfl, _, _⟩ := ey.shape
                    obtain ⟨b1, hb1⟩ : ∃ b, (xd == (d4 : Int)) = b := ⟨_, rfl⟩
                    obtain ⟨b2, hb2⟩ : ∃ b, (xa == (a5 : Int)) = b := ⟨_, rfl⟩
                    obtain ⟨bb, ob, tv, hbo, hcv, htv⟩ := (LV6.out.up BY).bools.cellAt (k := d4) (by rw [HLEN.out]; exact HI.out.2.2.2.1)
                    have HBO := Lib.hid hbo
                    subst hbo
                    have HW : Hid ((L.take (k + 1)).foldl (wantS lvs i) (secL (xs i)) = if (b1 && b2 && tv) = true then xb else z) := by
                      show _ = _
                      rw [hTK, List.foldl_append, ← HZZ.out]
                      show wantS lvs i z ⟨xd, xa, xb⟩ = _
                      unfold wantS
                      rw [← HI.out.2.1, ← HI.out.2.2.1, show B.live1 lvs d4 = tv by unfold B.live1; rw [List.getD_eq_getElem?_getD, htv.out]; rfl, ← hb1, ← hb2]
                      simp only [Bool.and_eq_true, beq_iff_eq, and_assoc]
                    obtain ⟨hlx, hlx2⟩ : ∃ nx, nx = xb.length := ⟨_, rfl⟩
                    rw [← hlx2] at e2 ey
                    have HEY : Hid (∀ o, Byt (wr.alloc o) (.slice au hlx cu) xb) := Lib.hid (fun o => ey.alloc)
                    have HBY2 : Hid (∀ o, Byt (wr.alloc o) sv z) := Lib.hid (fun o => HBY.out.alloc)
                    have HCV : Hid (∀ o, (wr.alloc o).cell? ⟨bb, ob + d4, none⟩ = some (.bool tv)) := Lib.hid (fun o => cell_fr hcv (Fr.alloc (S := fun _ => False) wr o) id)
                    have hcv2 := HCV.out (.cells #[.int .i64 xd, .int .i64 xa, .slice au hlx cu] 56)
                    have BYA : Hid (∀ o, Below w6.heap.size w6 (wr.alloc o)) := Lib.hid (fun o => belT BY (belA1 (belR _)))
                    clear hTK ey hix hux i8 i9 hlx2 htv hlt hkM hcv HZZ HBY
                    cases b1 with
                    | false =>
                      have HW2 : Hid (z = (L.take (k + 1)).foldl (wantS lvs i) (secL (xs i))) := by rw [HW.out]; exact Lib.hid rfl
                      go_wp2
                      go_roundw
                      case rel => exact ⟨k + 1, z, _, HKL.out, by go_num, rfl, Lib.hid (HBY2.out _), HW2, BYA.out _⟩
                      case measure => have := HKL.out; simp [intOf]; omega
                    | true =>
                      cases b2 with
                      | false =>
                        have HW2 : Hid (z = (L.take (k + 1)).foldl (wantS lvs i) (secL (xs i))) := by rw [HW.out]; exact Lib.hid rfl
                        go_wp2
                        go_roundw
                        case rel => exact ⟨k + 1, z, _, HKL.out, by go_num, rfl, Lib.hid (HBY2.out _), HW2, BYA.out _⟩
                        case measure => have := HKL.out; simp [intOf]; omega
                      | true =>
                        cases tv with
                        | false =>
                          have HW2 : Hid (z = (L.take (k + 1)).foldl (wantS lvs i) (secL (xs i))) := by rw [HW.out]; exact Lib.hid rfl
                          go_wp2
                          go_roundw
                          case rel => exact ⟨k + 1, z, _, HKL.out, by go_num, rfl, Lib.hid (HBY2.out _), HW2, BYA.out _⟩
                          case measure => have := HKL.out; simp [intOf]; omega
                        | true =>
                          have HW2 : Hid (xb = (L.take (k + 1)).foldl (wantS lvs i) (secL (xs i))) := by rw [HW.out]; exact Lib.hid rfl
                          go_wp2
                          go_roundw
                          case rel => exact ⟨k + 1, xb, _, HKL.out, by go_num, rfl, Lib.hid (HEY.out _), HW2, BYA.out _⟩
                          case measure => have := HKL.out; simp [intOf]; omega
                  · have hke : k = M := by omega
                    subst hke
                    have hz := HZZ.out
                    rw [HKE.out, List.take_length] at hz
                    have hlk := HZ.out.2.2.2.2 i HI.out.1
                    rw [← HI.out.2.1, ← HI.out.2.2.1] at hlk
                    have HRD := bread_lv wr _ _ _ _ C d4 a5 (I6.out.up BY) HZ.out.1.lv (by rw [HZ.out.2.1]; exact HI.out.2.2.2.1) HI.out.2.2.2.2
                    rw [HZ.out.2.2.2.1 d4, hlk, ← hz] at HRD
                    simp only [Bool.false_eq_true, if_false] at HRD
                    have HRD := Lib.hid HRD
                    obtain ⟨ao, co, rfl, _, _⟩ := HBY.out.shape
                    clear hlt hkM hz hlk
                    go_wp2_with fail
                    refine Calls.mono HRD.out ?_
                    rintro r w9 ⟨yv, rfl, O9, b9⟩
                    have HSM := same_any yv _ z z w9 O9.byt (HBY.out.up b9)
                    rw [decide_eq_true (rfl : z = z)] at HSM
                    have HSM := Lib.hid HSM
                    have B9 := belT BY b9
                    obtain ⟨ay, cy, rfl, _, _⟩ := O9.byt.shape
                    clear O9 b9 HRD
                    go_wp2_with fail
                    refine Calls.mono HSM.out ?_
                    rintro r w10 ⟨rfl, df⟩
                    have B10 := B9.trans (df.below _)
                    clear df
                    go_wp2
                    go_roundw
                    case rel => exact ⟨i + 1, HI.out.1, by go_num, B10⟩
                    case measure => have := HI.out; simp [intOf]; omega
              · have hie : i = 64 := by omega
                subst hie
                have BE := belT BW6.out BX
                clear BX
                go_wp2_with fail
                refine Calls.mono (wakes12_any _) ?_
                rintro r w9 ⟨rfl, bl9⟩
                go_wp2
                go_ret
                exact ⟨rfl, belT BE bl9⟩
      · have hk : rok s L = false := by simpa using hk
        rw [rerr_no hk] at HCK
        have HCK := Lib.hid HCK
        clear hk
        go_wp2_with fail
        refine Calls.mono HCK.out ?_
        rintro r w4 ⟨rfl, bl4⟩
        have BW4 := belT BW3.out bl4
        clear bl4
        go_wp2_with fail
        refine Calls.mono (wakes12_any _) ?_
        rintro r w5 ⟨rfl, bl5⟩
        go_wp2
        go_ret
        exact ⟨rfl, belT BW4 bl5⟩
end Go.Proofs.Ytenjpldinnbcbaa
