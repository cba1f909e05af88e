/- The walk of SyndMemory (chapter 3). True at every input. -/
import Derived.Test.YtghbbceephcifaaSyndSplit
import Derived.Deep.CutRange
namespace Go.Proofs.Ytghbbceephcifaa
open Go.RowKit
attribute [local go_sem ↓] Go.wp_at_zero Go.wp_at_succ
set_option linter.unusedVariables false
set_option linter.unusedSimpArgs false
set_option maxRecDepth 100000
set_option maxHeartbeats 4000000
/-- P of one part is the part -/
theorem P_one {p : List Nat} (hp : ∀ x ∈ p, x < 256) : Y.P [p] = p := by
  unfold Y.P
  rw [Y.sumL_of (fun _ => 1) (m := p.length) (by intro q hq; rw [List.mem_singleton.1 hq]) (by simp)]
  apply List.ext_getElem?
  intro i
  rcases Nat.lt_or_ge i p.length with hi | hi
  · show (Y.row (fun _ => 1) [p] 1 p.length)[i]? = _
    rw [Y.row_get _ _ _ _ _ hi, List.getElem?_eq_getElem hi]
    have e : Y.S (fun _ => 1) [p] 1 i = G.gm p[i] 1 := by
      show 0 ^^^ G.gm (p.getD i 0) 1 = _
      rw [Nat.zero_xor]; simp [List.getD, hi]
    rw [e, G.gm_one_right (hp _ (List.getElem_mem hi))]
  · rw [List.getElem?_eq_none (by rw [Y.row_len]; omega), List.getElem?_eq_none hi]
theorem Own.keep {w w' : World} {base : Nat} {v : Value} {l : List Nat} {row : Option Nat} (h : Own w base v l) (hg : w.grownBy w' row) (hne : ∀ g, v.ownBlock = some g → row ≠ some g) : Own w' base v l := by
  refine ⟨h.1, h.2.kept hg ?_⟩
  cases hv : v.ownBlock with
  | none => exact .inl rfl
  | some g => exact .inr fun e => hne g hv e.symm
theorem OwnP.apart {w w' : World} {base : Nat} {v u : Value} {ls : List (List Nat)} (h : OwnP w base v ls) (hg : w.grownBy w' u.ownBlock) (hu : ∀ g, u.ownBlock = some g → g < base) : OwnP w' base v ls := by
  obtain ⟨cs, h1, h2⟩ := h
  refine ⟨cs, h1.kept hg ?_, fun i hi => let ⟨c, e, hc⟩ := h2 i hi; ⟨c, e, hc.apart hg hu⟩⟩
  cases hv : v.ownBlock with
  | none => exact .inl rfl
  | some g =>
    right
    intro e
    have h3 := (h1.lt g hv).1
    have h4 := hu g e.symm
    omega
/-- the row at a place of rows that are owned: its value and its cell -/
theorem OwnP.get {w : World} {base n cap : Nat} {ao : Option Addr} {ls : List (List Nat)} (h : OwnP w base (.slice ao n cap) ls) {k : Nat} (hk : k < ls.length) :
    ∃ b off c p, ao = some ⟨b, off, none⟩ ∧ w.cell? ⟨b, off + k, none⟩ = some c ∧ Hid (ls[k]? = some p) ∧ Own w base c p := by
  obtain ⟨cs, h1, h2⟩ := h
  obtain ⟨c, hc, ho⟩ := h2 k hk
  rcases h1.2 with ⟨e, h3⟩ | ⟨g, cap', cur, e, h3, hg, r1, r2, r3, r4⟩
  · omega
  · cases e
    refine ⟨g, 0, c, _, rfl, ?_, getD_get _ hk, ho⟩
    rw [Nat.zero_add, h1.cellAt k (by omega)]
    exact hc
attribute [local irreducible] Go.Calls Byt Own Parts
theorem syndMemory_walk (pv : Value) (ls : List (List Nat)) (n : Int) (w : World) (hp : Parts w pv ls) (hn : -9223372036854775808 ≤ n ∧ n ≤ 9223372036854775807) :
    Calls Try.prog 13 #[pv, .int .i64 n] w fun e w' => e = .returned (.bool true) ∧ Below w.heap.size w w' := by
  obtain ⟨N, hN⟩ : ∃ N, n - Int.tmod n 5 = N := ⟨_, rfl⟩
  have hN2 : -9223372036854775808 ≤ N ∧ N ≤ 9223372036854775807 := by have := tmod5 n; omega
  have hNm : Hid (Int.tmod N 5 ≠ 4) := by show _ ≠ _; rw [← hN, tmod5_sub]; decide
  obtain ⟨ao0, cap0, rfl, _, _⟩ := hp.shape
  go_enter Try.func13, Try.ntmps13
  go_wp2_with fail
  refine Calls.mono (wpParts _ ls N _ hp hN2.1 hN2.2) ?_
  rintro e w1 ⟨v1, rfl, O1, b1⟩
  have hp1 := hp.up b1
  obtain ⟨xs, hxs⟩ : ∃ xs, xs = partsL ls N := ⟨_, rfl⟩
  have hx7 : xs.length ≤ 7 := by rw [hxs]; exact parts_le ls N
  have HM : Hid (∀ l ∈ xs, l.length ≤ 1048576) := by rw [hxs]; exact parts_mem ls N
  have hal : ∀ p ∈ xs, p.length = 1 + (withinI N 8).toNat := by rw [hxs]; exact parts_len ls N hNm.out
  have HX := Lib.hid hxs
  rw [← hxs] at O1
  clear hxs hp
  have P1 := O1.parts
  obtain ⟨ao1, cap1, rfl, hc1, hc2⟩ := P1.shape
  clear O1
  by_cases h0 : xs.length = 0
  · have hb0 : ((xs.length : Int) == 0) = true := by rw [h0]; rfl
    clear h0
    go_wp2_with fail
    refine Calls.mono (synP_any _ [] _ (Parts.nil _) (by simp) (by simp)) ?_
    rintro e w2 ⟨v2, rfl, O2, b2⟩
    obtain ⟨ao2, cap2, rfl, _, _⟩ := O2.byt.shapeN (n := 0) rfl
    go_wp2_with fail
    refine Calls.mono (wakes3_any _) ?_
    rintro e w20 ⟨rfl, b20⟩
    go_wp2_with fail
    go_ret
    exact ⟨rfl, belT b1 (belT b2 b20)⟩
  · have hb0 : ((xs.length : Int) == 0) = false := by rw [beq_eq_false_iff_ne]; omega
    have hpos : 0 < xs.length := by omega
    clear h0
    obtain ⟨b, off, c0, x0, rfl, hc0, hx0, hB0⟩ := P1.get (k := 0) hpos
    obtain ⟨m, hm⟩ : ∃ m, m = x0.length := ⟨_, rfl⟩
    have hm0 := hal x0 (List.mem_of_getElem? hx0.out)
    have hmb : 0 < m ∧ m ≤ 1048576 := by have := HM.out x0 (List.mem_of_getElem? hx0.out); omega
    have HL0 : Hid (x0.length = m) := hm.symm
    obtain ⟨aox, capx, ex, _, _⟩ := hB0.shape
    rw [← hm] at ex
    subst ex
    have hc0' : w1.cell? ⟨b, off, none⟩ = some (.slice aox m capx) := by simpa using hc0
    have hPl : Hid ((Y.P xs).length = m ∧ (Y.Q xs).length = m) := by
      show _ ∧ _
      unfold Y.P Y.Q
      rw [Y.sumL_of _ (m := m) (fun p hp => by rw [hal p hp, hm, hm0]) hpos, Y.sumL_of _ (m := m) (fun p hp => by rw [hal p hp, hm, hm0]) hpos, Y.row_len, Y.row_len]
      exact ⟨rfl, rfl⟩
    have HB0 := Lib.hid hB0
    have h08 := hB0.bytes
    have HP1 : Hid (Y.P [x0] = x0) := P_one h08
    have HP := Lib.hid P1
    have HC : Hid (∀ W, Below w1.heap.size w1 W → W.cell? ⟨b, off, none⟩ = some (.slice aox m capx)) := by
      intro W hW
      rw [hW.cell (World.block_lt_of_cell? _ _ hc0')]; exact hc0'
    clear hal hm hm0 hB0 hc0 P1
    have hB1 : Below w1.heap.size w1 w1 := belR _
    go_wp2_with fail
    go_cut [6, 7, 8] from 12 (fun p q o w' => ∃ s2 s3, Own w' w1.heap.size p (Y.P xs) ∧ (∀ g, p.ownBlock = some g → g < s2) ∧ Own w' s2 q (Y.Q xs) ∧ (∀ g, q.ownBlock = some g → g < s3) ∧ Own w' s3 o x0 ∧ w1.heap.size ≤ s2 ∧ s2 ≤ s3 ∧ Below w1.heap.size w1 w')
    case first =>
      go_region_held3 (fun w' => w'.cell? ⟨b, off, none⟩ = some (.slice aox m capx))
        ((refine HC.out _ ?_; iterate 8 try (first | assumption | apply belDr | apply belAlloc)))
        ((first
          | (go_at_call_of 37 (Value.slice (some ⟨b, off, none⟩) xs.length cap1); go_loud (refine Calls.mono (synP_any _ xs _ (HP.out.up (by iterate 8 try (first | assumption | apply belDr | apply belAlloc))) (by omega) HM.out) ?_); rintro e wa ⟨va, rfl, Oa, ba⟩; have hBa : Below w1.heap.size w1 wa := belT (by iterate 8 try (first | assumption | apply belDr | apply belAlloc)) ba)
          | (go_at_call 38; go_loud (refine Calls.mono (synQ_any _ xs _ (HP.out.up (by iterate 8 try (first | assumption | apply belDr | apply belAlloc))) (by omega) HM.out) ?_); rintro e wb ⟨vb, rfl, Ob, bb⟩; have hBb : Below w1.heap.size w1 wb := belT (by iterate 8 try (first | assumption | apply belDr | apply belAlloc)) bb; have hab : Below wa.heap.size wa wb := belT (by iterate 4 try (first | exact belR _ | apply belDr | apply belAlloc)) bb)
          | (go_at_call 37; go_loud (refine Calls.mono (synP_any _ [x0] _ (by first | exact (Parts.lit1 (by first | rfl | simp) (HB0.out.up (by iterate 8 try (first | assumption | apply belDr | apply belAlloc)))) | exact Parts.below (Parts.lit1 (by first | rfl | simp) (HB0.out.up (by iterate 8 try (first | assumption | apply belDr | apply belAlloc)))) bb (Nat.le_refl _) | exact (Parts.below (Parts.lit1 (by first | rfl | simp) (HB0.out.up (by iterate 8 try (first | assumption | apply belDr | apply belAlloc)))).drew ba (Nat.le_refl _)).up hab) (by simp) (by intro l hl; rw [List.mem_singleton.1 hl, HL0.out]; exact hmb.2)) ?_); rw [HP1.out]; rintro e wc ⟨vc, rfl, Oc, bc⟩; have hBc : Below w1.heap.size w1 wc := belT (by iterate 8 try (first | assumption | apply belDr | apply belAlloc)) bc; have hbc : Below wb.heap.size wb wc := belT (by iterate 4 try (first | exact belR _ | apply belDr | apply belAlloc)) bc)))
      all_goals
        go_wp2
        go_meet
        case rel =>
          refine ⟨wa.heap.size, wb.heap.size, own_mono ((Oa.up hab).up hbc) (by have := hB1.size; first | exact Nat.le_refl _ | (simp; omega) | simp), fun g hg => Oa.lt g hg, own_mono (Ob.up hbc) (by first | exact Nat.le_refl _ | (simp; omega) | simp), fun g hg => Ob.lt g hg, own_mono Oc (by first | exact Nat.le_refl _ | (simp; omega) | simp), hBa.size, hab.size, hBc⟩
    case rest =>
      obtain ⟨s2, s3, Op, hlp, Oq, hlq, Oo, hs2, hs3, hBc⟩ := hcut
      obtain ⟨aop, capp, rfl, _, _⟩ := Op.byt.shapeN hPl.out.1
      obtain ⟨aoq, capq, rfl, _, _⟩ := Oq.byt.shapeN hPl.out.2
      obtain ⟨aoo, capo, rfl, _, _⟩ := Oo.byt.shapeN HL0.out
      have hcx := HC.out _ hBc
      go_wp2_with fail
      refine Calls.mono (wpParts _ ls N _ (hp1.up hBc) hN2.1 hN2.2) ?_
      rintro e w5 ⟨v5, rfl, Oy, b5⟩
      rw [← HX.out] at Oy
      have Py := Oy.parts
      obtain ⟨aoy, capy, rfl, _, _⟩ := Py.shape
      obtain ⟨y, yoff, c1, y0, e1, hc1y, hy0, _⟩ := Py.get (k := 0) hpos
      subst e1
      have HPy := Lib.hid Py
      clear hc1y hy0 Py
      have hB5 : Below w1.heap.size w1 w5 := belT hBc b5
      go_wp2_with fail
      go_loopw [63] (fun i w' => ∃ k : Nat, k ≤ xs.length ∧ i = .int .i64 k ∧ Hid (Below w5.heap.size w5 w')) (fun i _ => xs.length - (intOf i).toNat)
      case atStart => exact ⟨0, Nat.zero_le _, rfl, belR _⟩
      case round =>
        obtain ⟨k, hk, rfl, hBk⟩ := hrel
        have hB5k := belT hB5 hBk.out
        by_cases hlt : k < xs.length
        · obtain ⟨bx, offx, cx, px, e1, hcx1, hpx, hbx⟩ := HP.out.get hlt
          cases e1
          obtain ⟨by', offy', cy, py, e1, hcy1, hpy, hby⟩ := HPy.out.get hlt
          cases e1
          have epy : py = px := Option.some.inj (hpy.out.symm.trans hpx.out)
          subst epy
          obtain ⟨aox1, capx1, rfl, _, _⟩ := hbx.shape
          obtain ⟨aoy1, capy1, rfl, _, _⟩ := hby.shape
          have HK : Hid (∀ W, Below w5.heap.size w5 W → W.cell? ⟨b, off + k, none⟩ = some (.slice aox1 py.length capx1) ∧ W.cell? ⟨y, yoff + k, none⟩ = some (.slice aoy1 py.length capy1)) := by
            intro W hW
            rw [(belT hB5 hW).cell (World.block_lt_of_cell? _ _ hcx1), hW.cell (World.block_lt_of_cell? _ _ hcy1)]
            exact ⟨hcx1, hcy1⟩
          have hBk1 := hBk.out
          have hk1 : (0 : Int) ≤ (k : Int) := by omega
          have hk2 : (k : Int) < (xs.length : Int) := by omega
          have Hbx := Lib.hid hbx
          have Hby := Lib.hid hby
          clear hbx hby hcx1 hcy1
          go_wp2_with fail
          go_region_held3 (fun w' => w'.cell? ⟨b, off + k, none⟩ = some (.slice aox1 py.length capx1) ∧ w'.cell? ⟨y, yoff + k, none⟩ = some (.slice aoy1 py.length capy1))
            ((refine HK.out _ ?_; iterate 8 try (first | assumption | apply belDr | apply belAlloc)))
            ((go_at_call 24; refine Calls.mono (same_any _ _ py py _ (Hbx.out.up (belT hB5 (by iterate 8 try (first | assumption | apply belDr | apply belAlloc)))) (Hby.out.up (by iterate 8 try (first | assumption | apply belDr | apply belAlloc)))) ?_; rw [decide_eq_true rfl]; rintro e wa ⟨rfl, da⟩; have hBa : Below w5.heap.size w5 wa := belT (by iterate 8 try (first | assumption | apply belDr | apply belAlloc)) (da.below _)))
          all_goals
            go_wp2
            go_roundw
            case rel => exact ⟨k + 1, by omega, by go_num, Lib.hid (by iterate 8 try (first | assumption | apply belDr | apply belAlloc))⟩
            case measure => simp [intOf]; omega
        · have hcx2 := HC.out _ hB5k
          have HOy := Lib.hid (Oy.up hBk.out)
          have HOp := Lib.hid (Op.up (belT b5 hBk.out))
          have HOq := Lib.hid (Oq.up (belT b5 hBk.out))
          have hOo := Lib.hid (Oo.up (belT b5 hBk.out))
          have hlo := Oo.lt
          have hlop := Op.lt
          have hcw := hBc.size
          go_wp2_with fail
          go_loopw [79] (fun i w' => ∃ (k : Nat) (l' : List Nat), k ≤ m ∧ i = .int .i64 k ∧ l'.length = m ∧ Hid (Own w' s3 (.slice aoo m capo) l') ∧ Hid (Below w1.heap.size w1 w') ∧ Hid (OwnP w' wc.heap.size (.slice (some ⟨y, yoff, none⟩) xs.length capy) xs) ∧ Hid (Own w' w1.heap.size (.slice aop m capp) (Y.P xs)) ∧ Hid (Own w' s2 (.slice aoq m capq) (Y.Q xs))) (fun i _ => m - (intOf i).toNat)
          case atStart => exact ⟨0, x0, Nat.zero_le _, rfl, HL0.out, hOo, Lib.hid hB5k, HOy, HOp, HOq⟩
          case round =>
            clear hcx2 HOy HOp HOq hOo hB5k hBk hlt hk
            obtain ⟨j, l', hj, rfl, hl', hO, hBj, hY, hP, hQ⟩ := hrel
            by_cases hjm : j < m
            · obtain ⟨g, capg, e0, hg1, hg2, hg3, hg4⟩ := hO.out.shape (by omega)
              rw [hl'] at e0
              cases e0
              obtain ⟨x, hx⟩ : ∃ x, l'[j]? = some x := ⟨_, getD_get 0 (by omega)⟩
              obtain ⟨hx8, hxc, hxf⟩ := hO.out.cells hx
              have hxx : bits .xor .u8 (x : Int) 255 = ((x ^^^ 255 : Nat) : Int) := bx8 hx8 (by decide)
              have hxc8 := G.xor8 hx8 (show 255 < 256 by decide)
              have HST := Lib.hid (hO.out.store j (x ^^^ 255) hxc8)
              have hgl : g < wc.heap.size := hlo g rfl
              have HBj := Lib.hid (hBj.out.grown HST.out.2 hBj.out.size (fun k hk => by cases hk; omega))
              have HY := Lib.hid (OwnP.apart (u := .slice (some ⟨g, 0, none⟩) m capo) hY.out HST.out.2 (fun k hk => by cases hk; exact hgl))
              have HPk := Lib.hid (hP.out.keep HST.out.2 (fun k hk e => by have h5 := hlp k hk; cases e; omega))
              have HQk := Lib.hid (hQ.out.keep HST.out.2 (fun k hk e => by have h5 := hlq k hk; cases e; omega))
              clear hx
              go_wp2
              go_roundw
              case rel => exact ⟨j + 1, l'.set j (x ^^^ 255), by omega, by go_num, by rw [List.length_set]; exact hl', Lib.hid HST.out.1, HBj, HY, HPk, HQk⟩
              case measure => simp [intOf]; omega
            · clear hlo hO hl'
              obtain ⟨gp, capg, e0, hg1, hg2, hg3, hg4⟩ := hP.out.shape (by rw [hPl.out.1]; exact hmb.1)
              rw [hPl.out.1] at e0
              cases e0
              obtain ⟨v, hv⟩ : ∃ v, (Y.P xs)[0]? = some v := ⟨_, getD_get 0 (by rw [hPl.out.1]; exact hmb.1)⟩
              obtain ⟨hv8, hvc, hvf⟩ := hP.out.cells hv
              have hvx : bits .xor .u8 (v : Int) 1 = ((v ^^^ 1 : Nat) : Int) := bx8 hv8 (by decide)
              have hvc8 := G.xor8 hv8 (show 1 < 256 by decide)
              obtain ⟨W1, hW1⟩ : ∃ W1, W1 = wr.setCell ⟨gp, 0, none⟩ (.int .u8 ((v ^^^ 1 : Nat) : Int)) := ⟨_, rfl⟩
              have hst := hP.out.store 0 (v ^^^ 1) hvc8
              rw [← hW1] at hst
              have hgs := hlp gp rfl
              have hgw := hlop gp rfl
              have hBW : Below w1.heap.size w1 W1 := hBj.out.grown hst.2 hBj.out.size (fun k hk => by cases hk; exact hg1)
              have hYW := OwnP.apart (u := .slice (some ⟨gp, 0, none⟩) m capp) hY.out hst.2 (fun k hk => by cases hk; exact hgw)
              have hQW := hQ.out.keep hst.2 (fun k hk e => by have h5 := hQ.out.ge k hk; cases e; omega)
              have hPW := hst.1
              have HNE : Hid (decide (Y.P xs = (Y.P xs).set 0 (v ^^^ 1)) = false) := by
                show _ = _
                rw [decide_eq_false_iff_not]
                intro h
                have h3 : (Y.P xs)[0]? = ((Y.P xs).set 0 (v ^^^ 1))[0]? := congrArg (fun l => l[0]?) h
                rw [List.getElem?_set_self (by rw [hPl.out.1]; exact hmb.1), hv] at h3
                have h4 := Option.some.inj h3
                have h5 : v ^^^ v = v ^^^ (v ^^^ 1) := by rw [← h4]
                rw [← Nat.xor_assoc, Nat.xor_self, Nat.zero_xor] at h5
                cases h5
              obtain ⟨y', yoff', c1, y0, e1, hc1y, hy0, Oy0⟩ := hYW.get (k := 0) hpos
              cases e1
              have e1 : y0 = x0 := Option.some.inj (hy0.out.symm.trans hx0.out)
              subst e1
              obtain ⟨aoy0, capy0, ey, _, _⟩ := Oy0.byt.shape
              rw [HL0.out] at ey
              subst ey
              have HC2 : Hid (∀ W, Below W1.heap.size W1 W → W.cell? ⟨b, off, none⟩ = some (.slice aox m capx) ∧ W.cell? ⟨y, yoff, none⟩ = some (.slice aoy0 m capy0)) := by
                intro W hW
                refine ⟨HC.out W (belT hBW hW), ?_⟩
                have h6 : W1.cell? ⟨y, yoff, none⟩ = some (.slice aoy0 m capy0) := by simpa using hc1y
                rw [hW.cell (World.block_lt_of_cell? _ _ h6)]; exact h6
              have HY0 := Lib.hid Oy0.byt
              have HQW := Lib.hid hQW.byt
              have HPW := Lib.hid hPW.byt
              have hBWW : Below W1.heap.size W1 W1 := belR _
              have HW1 := Lib.hid hW1
              clear hW1 hst hv hc1y Oy0 hYW hQW hPW hY hP hQ
              go_wp2_with fail
              rw [← HW1.out]
              go_region_held3 (fun w' => w'.cell? ⟨b, off, none⟩ = some (.slice aox m capx) ∧ w'.cell? ⟨y, yoff, none⟩ = some (.slice aoy0 m capy0))
                ((refine HC2.out _ ?_; iterate 8 try (first | assumption | apply belDr | apply belAlloc)))
                ((first
                  | (go_at_call_of 24 (Value.slice aox m capx); refine Calls.mono (same_any _ _ y0 y0 _ (HB0.out.up (belT hBW (by iterate 8 try (first | assumption | apply belDr | apply belAlloc)))) (HY0.out.up (by iterate 8 try (first | assumption | apply belDr | apply belAlloc)))) ?_; rw [decide_eq_true rfl]; rintro e wa ⟨rfl, da⟩; have hBa : Below W1.heap.size W1 wa := belT (by iterate 8 try (first | assumption | apply belDr | apply belAlloc)) (da.below _))
                  | (go_at_call 38; refine Calls.mono (synQ_any _ xs _ (HP.out.up (belT hBW (by iterate 8 try (first | assumption | apply belDr | apply belAlloc)))) (by omega) HM.out) ?_; rintro e wb ⟨vb, rfl, Ob, bb⟩; have hBb : Below W1.heap.size W1 wb := belT (by iterate 8 try (first | assumption | apply belDr | apply belAlloc)) bb)
                  | (go_at_call_of 24 vb; refine Calls.mono (same_any _ _ (Y.Q xs) (Y.Q xs) _ (by first | exact Ob.byt | exact Ob.byt.drew) (HQW.out.up (by iterate 8 try (first | assumption | apply belDr | apply belAlloc)))) ?_; rw [decide_eq_true rfl]; rintro e wd ⟨rfl, dd⟩; have hBd : Below W1.heap.size W1 wd := belT (by iterate 8 try (first | assumption | apply belDr | apply belAlloc)) (dd.below _))
                  | (go_at_call 37; refine Calls.mono (synP_any _ xs _ (HP.out.up (belT hBW (by iterate 8 try (first | assumption | apply belDr | apply belAlloc)))) (by omega) HM.out) ?_; rintro e we ⟨ve, rfl, Oe, be⟩; have hBe : Below W1.heap.size W1 we := belT (by iterate 8 try (first | assumption | apply belDr | apply belAlloc)) be)
                  | (go_at_call_of 24 ve; refine Calls.mono (same_any _ _ (Y.P xs) ((Y.P xs).set 0 (v ^^^ 1)) _ (by first | exact Oe.byt | exact Oe.byt.drew) (HPW.out.up (by iterate 8 try (first | assumption | apply belDr | apply belAlloc)))) ?_; rw [HNE.out]; rintro e wf ⟨rfl, df⟩; have hBf : Below W1.heap.size W1 wf := belT (by iterate 8 try (first | assumption | apply belDr | apply belAlloc)) (df.below _))
                  | (go_at_call 41; refine Calls.mono (wakes3_any _) ?_; rintro e wg ⟨rfl, bg⟩; have hBg : Below W1.heap.size W1 wg := belT (by iterate 8 try (first | assumption | apply belDr | apply belAlloc)) bg)))
              all_goals
                go_wp2
                go_ret
                exact ⟨rfl, belT b1 (belT hBW (by iterate 8 try (first | assumption | apply belDr | apply belAlloc)))⟩
theorem syndMemory_law (W : World) (v0 : Value) (l : List (List Nat)) (hl : Parts W v0 l) (_ : l.length * 24 ≤ 140737488351232) (n : Int) (hn : -9223372036854775808 ≤ n ∧ n ≤ 9223372036854775807) :
    Calls Try.prog 13 #[v0, .int .i64 n] W fun e W' => e = .returned (.bool true) ∧ Below W.heap.size W W' :=
  syndMemory_walk v0 l n W hl hn
end Go.Proofs.Ytghbbceephcifaa
