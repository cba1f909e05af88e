/- Merged: LgG, LgK, LgR. -/
import Derived.Test.YtenjpldinnbcbaaLgA
import Derived.Test.YtenjpldinnbcbaaRecD
import Derived.Deep.CutRange
/- The walk of log.Get. -/

namespace Go.Proofs.Ytenjpldinnbcbaa
open Go.RowKit C
set_option linter.unusedVariables false
set_option linter.unusedSimpArgs false
set_option maxRecDepth 100000
set_option maxHeartbeats 2000000
namespace B
def rd (b : Bn) (d i : Nat) : List Nat := if failB b d then [] else lookB b d (2 + i)
def rows4 (b : Bn) (d k : Nat) : List (List Nat) := (List.range k).map (fun i => rd b d i)
theorem rows4_succ (b : Bn) (d k : Nat) : rows4 b d (k + 1) = rows4 b d k ++ [rd b d k] := by unfold rows4; rw [List.range_succ, List.map_append]; rfl
theorem rows4_len (b : Bn) (d k : Nat) : (rows4 b d k).length = k := by unfold rows4; simp
def stR (b : Bn) (r : Int × List RI) (d : Nat) : Int × List RI := if ris (rows4 b d 4) = true ∧ r.1 < rnum (rows4 b d 4) then (rnum (rows4 b d 4), rlist (rows4 b d 4)) else r
def bestR (b : Bn) (T : List Nat) : Int × List RI := T.foldl (stR b) (0, [])
theorem bestR_succ (b : Bn) {T : List Nat} {j d : Nat} (h : T[j]? = some d) : bestR b (T.take (j + 1)) = stR b (bestR b (T.take j)) d := by
  unfold bestR
  rw [List.take_add_one, h, List.foldl_append]; rfl
end B
theorem ItemsF.low {w : World} {base base' : Nat} {v : Value} {l : List RI} (h : ItemsF w base v l) (hb : base' ≤ base) : ItemsF w base' v l := by
  obtain ⟨T, e, o, f⟩ := h
  exact ⟨T, e, o.low hb, fun p hp g hg => Nat.le_trans hb (f p hp g hg)⟩
/-- the boxes of Get -/
structure GX (w : World) (r : Int × List RI) (X : World) : Prop where
  res : Box X w.heap.size [.int .i64 0, .slice none 0 0]
  best : ∃ v, Box X (w.heap.size + 1) [.int .i64 r.1, v] ∧ ItemsF X (w.heap.size + 2) v r.2
  bel : Below w.heap.size w X
  siz : w.heap.size + 2 ≤ X.heap.size
theorem GX.up {w : World} {r : Int × List RI} {X Y : World} (h : GX w r X) (k : Below X.heap.size X Y) : GX w r Y := by
  obtain ⟨v, b, i⟩ := h.best
  exact ⟨h.res.fr (Fr.of_below (S := fun _ => False) k) id, ⟨v, b.fr (Fr.of_below (S := fun _ => False) k) id, i.up k⟩, belT h.bel k, Nat.le_trans h.siz k.size⟩
attribute [local irreducible] Go.Calls Byt Own Parts PA BA Bools OwnD OwnT OwnZ Items ItemsF
theorem lget_any (w : World) (base g : Nat) (lv : Value) (hs : List (Nat × Value)) (b : B.Bn) (vv : Value) (lvs : List Bool) (h : IsBench w base g lv hs b) (hL : B.Lv b) (hn : b.ds.length ≤ 8) (hV : Bools w vv lvs) :
    Calls Try.prog 30 #[.pointer (some ⟨g, 0, none⟩), vv] w fun r w' => ∃ v, r = .returned (.tuple #[.agg #[.int .i64 (B.bestR b (onL lvs b.ds.length)).1, v], .bool (decide (0 < (B.bestR b (onL lvs b.ds.length)).1))]) ∧ ItemsF w' (w.heap.size + 2) v (B.bestR b (onL lvs b.ds.length)).2 ∧ Below w.heap.size w w' := by
  obtain ⟨j0, hj, hy0, hy1, hy2⟩ := info_parts parts_info
  have HB := Lib.hid h
  have HL := Lib.hid hL
  have HDK := Lib.hid (fun (o : Obj) (o' : Obj) => disks_any ((w.alloc o).alloc o') base g lv hs b vv lvs (h.up (belA2 (belR _))) hn (hV.up (belA2 (belR _))))
  obtain ⟨T, hT⟩ : ∃ T, T = onL lvs b.ds.length := ⟨_, rfl⟩
  rw [← hT] at HDK ⊢
  have HTL := Lib.hid (show (∀ d ∈ T, d < b.ds.length) ∧ T.length ≤ 8 from ⟨fun d hd => by rw [hT] at hd; exact (onL_lt hd).1, by rw [hT]; have := onL_len lvs b.ds.length; omega⟩)
  obtain ⟨R, hR⟩ : ∃ R, R = B.bestR b T := ⟨_, rfl⟩
  rw [← hR]
  have HR := Lib.hid hR
  have G0 : Hid (GX w (0, []) ((w.alloc (.cells #[.int .i64 0, .slice none 0 0] 59)).alloc (.cells #[.int .i64 0, .slice none 0 0] 59))) := by
    refine ⟨(Box.new w [.int .i64 0, .slice none 0 0] 59).fr (Fr.alloc (S := fun _ => False) _ _) id, ⟨.slice none 0 0, ?_, ItemsF.nil _ _⟩, belA2 (belR _), by simp⟩
    have := Box.new (w.alloc (.cells #[.int .i64 0, .slice none 0 0] 59)) [.int .i64 0, .slice none 0 0] 59
    rw [show (w.alloc (.cells #[.int .i64 0, .slice none 0 0] 59)).heap.size = w.heap.size + 1 by simp] at this
    exact this
  clear h hL hV hT hR
  go_enter Try.func30, Try.ntmps30
  go_wp2_with fail
  refine Calls.mono (HDK.out _ _) ?_
  rintro r w2 ⟨zv, rfl, Z2, b2⟩
  have G2 := Lib.hid (G0.out.up b2)
  have Z2 := Lib.hid Z2
  obtain ⟨az, cz, rfl, _, _⟩ := Z2.out.shape
  obtain ⟨M, hM⟩ : ∃ M, M = T.length := ⟨_, rfl⟩
  rw [← hM]
  rw [← hM] at Z2
  have HM := Lib.hid hM
  have hM8 : M ≤ 8 := by rw [hM]; exact HTL.out.2
  have hzg : Hid (∀ y, (Value.slice az M cz).ownBlock = some y → w.heap.size + 2 ≤ y) := Lib.hid (fun y hy => by have := Z2.out.ge y hy; simp at this; omega)
  clear hM b2
  go_wp2
  go_loopw [19] (fun jv X => ∃ j : Nat, j ≤ M ∧ jv = .int .i64 j ∧ Hid (GX w (B.bestR b (T.take j)) X ∧ Fr (fun y => y = w.heap.size + 1) w2 X)) (fun jv _ => M - (intOf jv).toNat)
  case atStart => exact ⟨0, Nat.zero_le _, rfl, Lib.hid ⟨G2.out, Fr.refl _ _⟩⟩
  case round =>
    obtain ⟨j, hjM, rfl, HS⟩ := hrel
    by_cases hlt : j < M
    · have j1 : (j : Int) < (M : Int) := by omega
      have j0' : (0 : Int) ≤ (j : Int) := by omega
      have j2 : IntKind.i64.wrap ((j : Int) + 1) = ((j + 1 : Nat) : Int) := by rw [IntKind.wrap_i64]; omega
      have HLT1 := Lib.hid hlt
      obtain ⟨d, hd⟩ : ∃ d, T[j]? = some d := ⟨T[j]'(by rw [← HM.out]; exact hlt), List.getElem?_eq_getElem _⟩
      obtain ⟨gz, haz, hcz⟩ := (Z2.out.fr HS.out.2 (fun y hy e => by have := hzg.out y hy; omega)).at hd
      have HAZ := Lib.hid haz
      subst haz
      have HDB := Lib.hid (HTL.out.1 d (List.mem_of_getElem? hd))
      obtain ⟨cr, hcr⟩ : ∃ cr, cr = B.bestR b (T.take j) := ⟨_, rfl⟩
      rw [← hcr] at HS
      have HNX : Hid (B.bestR b (T.take (j + 1)) = B.stR b cr d) := by rw [hcr]; exact Lib.hid (B.bestR_succ b hd)
      have GJ := Lib.hid HS.out.1
      have FJ := Lib.hid HS.out.2
      clear hlt hd hjM hcr HS
      go_wp2
      obtain ⟨wo, rfl⟩ : ∃ wo, wo = wr := ⟨_, rfl⟩
      go_loopw [9, 23] (fun rv kv Y => ∃ k : Nat, k ≤ 4 ∧ kv = .int .i64 k ∧ Hid (OwnD Y wo.heap.size rv (B.rows4 b d k) (fun _ => False)) ∧ Below wo.heap.size wo Y) (fun _ kv _ => 4 - (intOf kv).toNat)
      case atStart => exact ⟨0, Nat.zero_le _, rfl, Lib.hid (OwnD.nil _ _ _), belR _⟩
      case round =>
        obtain ⟨k, hk4, rfl, hO, BY⟩ := hrel
        have GW := Lib.hid (GJ.out.up BY)
        by_cases hkl : k < 4
        · have k1 : (k : Int) < 4 := by omega
          have k0 : (0 : Int) ≤ (k : Int) := by omega
          have k2 : IntKind.i64.wrap ((k : Int) + 1) = ((k + 1 : Nat) : Int) := by rw [IntKind.wrap_i64]; omega
          have k3 : IntKind.i64.wrap (2 + (k : Int)) = ((2 + k : Nat) : Int) := by rw [IntKind.wrap_i64]; omega
          have HKL := Lib.hid hkl
          obtain ⟨ad, cd, hde, _, _⟩ := hO.out.shape
          rw [B.rows4_len] at hde
          subst hde
          have HRJ := bread_lv wr base g lv hs b d (2 + k) (HB.out.up GW.out.bel) HL.out HDB.out (by omega)
          obtain ⟨er, her⟩ : ∃ er : Int, er = if B.failB b d then 5 else 0 := ⟨_, rfl⟩
          rw [← her] at HRJ
          have HRJ : Hid (Calls Try.prog 27 #[.pointer (some ⟨g, 0, none⟩), .int .i64 (d : Int), .int .i64 ((2 + k : Nat) : Int)] wr fun e w' => ∃ v, e = .returned (.tuple #[v, .int .i64 er]) ∧ Own w' wr.heap.size v (B.rd b d k) ∧ Below wr.heap.size wr w') := HRJ
          have hs1 : wo.heap.size ≤ wr.heap.size := BY.size
          clear hkl her hk4
          go_wp2_with fail
          refine Calls.mono HRJ.out ?_
          rintro r w5 ⟨v2, rfl, O2, b5⟩
          obtain ⟨a2, k2', rfl, _, _⟩ := O2.byt.shape
          go_wp2_with (at_builtin; go_loud (refine wpList_append_rowD rfl _ _ 31 rfl j0 Try.underlying31 hj hy0 hy1 hy2 wo.heap.size _ (B.rows4 b d k) (fun _ => False) rfl _ (belA1 b5) hO.out (fun g hg => hg.elim) _ _ (B.rd b d k) rfl (At.one _ _ _ (by first | rfl | simp)) (O2.up (belA1 (belR _))) (by rw [B.rows4_len]; have := HKL.out; omega) hs1 ?_); intro v3 w6 O3 g3)
          go_roundw
          case rel =>
            refine ⟨k + 1, HKL.out, by go_num, ?_, belG (belT BY (belA1 b5)) g3 (fun g hg => hO.out.ge g hg)⟩
            show OwnD _ _ _ _ _
            rw [B.rows4_succ]
            exact O3
          case measure => have := HKL.out; simp [intOf]; omega
        · have hke : k = 4 := by omega
          subst hke
          obtain ⟨ad, cd, hde, _, _⟩ := hO.out.shape
          rw [B.rows4_len] at hde
          subst hde
          have HDC := Lib.hid (decode_any _ _ wr hO.out.parts)
          clear hkl hk4
          go_wp2_with fail
          refine Calls.mono HDC.out ?_
          rintro r w5 ⟨sq, iv, il, er, rfl, IF, hsq, b5, hcase⟩
          have G5 := Lib.hid (GW.out.up b5)
          obtain ⟨bv, bb, bi⟩ := G5.out.best
          obtain ⟨⟨c0, c1⟩, fz0, fz1⟩ := bb.two
          have B5 := belT BY b5
          obtain ⟨ai, ci, rfl, _, _, _⟩ := IF.items.shape
          obtain ⟨m, hm⟩ : ∃ m, m = il.length := ⟨_, rfl⟩
          rw [← hm]
          rw [← hm] at IF
          have IF := Lib.hid IF
          have HSZ5 := Lib.hid (show w.heap.size + 2 ≤ w5.heap.size from G5.out.siz)
          have hwo2 : w.heap.size + 2 ≤ wr.heap.size := GW.out.siz
          have FO := Lib.hid (FJ.out.trans (Fr.of_below (S := fun y => y = w.heap.size + 1) B5))
          clear b5 hm bi
          go_upto_region 13 with (fail)
          obtain ⟨X6, hX6⟩ : ∃ X6, X6 = w5.alloc (.cells #[.int .i64 sq, .slice ai m ci] 59) := ⟨_, rfl⟩
          have b6 : Below w5.heap.size w5 X6 := by rw [hX6]; exact belA1 (belR _)
          have bx := Box.new w5 [.int .i64 sq, .slice ai m ci] 59
          have bx6 : Box X6 w5.heap.size [.int .i64 sq, .slice ai m ci] := by rw [hX6]; exact bx
          obtain ⟨⟨e0, e1⟩, _, _⟩ := bx6.two
          have bb6 := bb.fr (Fr.of_below (S := fun _ => False) b6) id
          obtain ⟨⟨d0, d1⟩, fy0, fy1⟩ := bb6.two
          have G6 := Lib.hid (G5.out.up b6)
          have I6 := Lib.hid (IF.out.up b6)
          have FO6 := Lib.hid (FO.out.trans (Fr.of_below (S := fun y => y = w.heap.size + 1) b6))
          have BB6 := Lib.hid bb6
          rw [← hX6]
          clear hX6 bx bx6 c0 c1 fz0 fz1 bb b6 B5 bb6
          have hsel : (er = 0 ∧ cr.1 < sq ∧ B.stR b cr d = (sq, il)) ∨ (er = 0 ∧ ¬ cr.1 < sq ∧ B.stR b cr d = cr) ∨ (er = 2 ∧ B.stR b cr d = cr) := by
            rcases hcase with ⟨h1, h2, h3, h4⟩ | ⟨h1, h2, _, _⟩
            · by_cases hq : cr.1 < sq
              · exact .inl ⟨h2, hq, by unfold B.stR; rw [if_pos ⟨h1, by rw [← h3]; exact hq⟩, h3, h4]⟩
              · exact .inr (.inl ⟨h2, hq, by unfold B.stR; rw [if_neg (fun h => hq (by rw [h3]; exact h.2))]⟩)
            · exact .inr (.inr ⟨h2, by unfold B.stR; rw [if_neg (fun h => by rw [h1] at h; cases h.1)]⟩)
          rcases hsel with ⟨rfl, hq, hst⟩ | ⟨rfl, hq, hst⟩ | ⟨rfl, hst⟩
          · have q1 : decide (cr.1 < sq) = true := decide_eq_true hq
            have HE : Hid (GX w (B.bestR b (T.take (j + 1))) ((X6.setCell ⟨w.heap.size + 1, 0, none⟩ (.int .i64 sq)).setCell ⟨w.heap.size + 1, 1, none⟩ (.slice ai m ci)) ∧ Fr (fun y => y = w.heap.size + 1) w2 ((X6.setCell ⟨w.heap.size + 1, 0, none⟩ (.int .i64 sq)).setCell ⟨w.heap.size + 1, 1, none⟩ (.slice ai m ci))) := by
              have F2 : Fr (fun y => y = w.heap.size + 1) X6 ((X6.setCell ⟨w.heap.size + 1, 0, none⟩ (.int .i64 sq)).setCell ⟨w.heap.size + 1, 1, none⟩ (.slice ai m ci)) := (Fr.cell ⟨w.heap.size + 1, 0, none⟩ _).trans (Fr.cell (w := X6.setCell ⟨w.heap.size + 1, 0, none⟩ (.int .i64 sq)) ⟨w.heap.size + 1, 1, none⟩ _)
              rw [HNX.out, hst]
              refine ⟨⟨G6.out.res.fr F2 (by show ¬ w.heap.size = w.heap.size + 1; omega), ⟨_, (BB6.out.set 0 (.int .i64 sq)).set 1 (.slice ai m ci), ?_⟩, Fr.below G6.out.bel F2 (by have := G6.out.siz; omega) (fun y e => by show w.heap.size ≤ y; rw [e]; omega), by have := G6.out.siz; have := F2.size; omega⟩, FO6.out.trans F2⟩
              exact (I6.out.fr F2 (fun y e => by show y < wr.heap.size; have e : y = w.heap.size + 1 := e; omega)).low hwo2
            clear hq hst
            go_wp2
            go_roundw
            case rel => exact ⟨j + 1, HLT1.out, by go_num, HE⟩
            case measure => have := HLT1.out; simp [intOf]; omega
          · have q1 : decide (cr.1 < sq) = false := decide_eq_false hq
            have HE : Hid (GX w (B.bestR b (T.take (j + 1))) X6 ∧ Fr (fun y => y = w.heap.size + 1) w2 X6) := by
              rw [HNX.out, hst]; exact ⟨G6.out, FO6.out⟩
            clear hst
            go_wp2
            go_roundw
            case rel => exact ⟨j + 1, HLT1.out, by go_num, HE⟩
            case measure => have := HLT1.out; simp [intOf]; omega
          · have HE : Hid (GX w (B.bestR b (T.take (j + 1))) X6 ∧ Fr (fun y => y = w.heap.size + 1) w2 X6) := by
              rw [HNX.out, hst]; exact ⟨G6.out, FO6.out⟩
            clear hst
            go_wp2
            go_roundw
            case rel => exact ⟨j + 1, HLT1.out, by go_num, HE⟩
            case measure => have := HLT1.out; simp [intOf]; omega
    · have hje : j = M := by omega
      subst hje
      have HG := HS.out.1
      rw [HM.out, List.take_length, ← HR.out] at HG
      obtain ⟨bv, bb, bi⟩ := HG.best
      obtain ⟨ai, ci, rfl, _, _, _⟩ := bi.items.shape
      obtain ⟨m, hm⟩ : ∃ m, m = R.2.length := ⟨_, rfl⟩
      rw [← hm] at bb bi
      obtain ⟨⟨c0, c1⟩, fz0, fz1⟩ := bb.two
      obtain ⟨⟨r0, r1⟩, fr0, fr1⟩ := HG.res.two
      have HGG := Lib.hid HG
      have BI := Lib.hid bi
      have BB := Lib.hid bb
      clear hm HG bi bb HS hlt hjM
      have RS1 : wr.heap.size ≥ w.heap.size + 2 := HGG.out.siz
      go_upto_region 16 with (fail)
      go_region_held3 (fun Y => Y.cell? ⟨w.heap.size + 1, 0, none⟩ = some (.int .i64 R.1) ∧ Y.cell? ⟨w.heap.size + 1, 1, none⟩ = some (.slice ai m ci))
        ((first | exact ⟨c0, c1⟩ | (exact ⟨(World.cell?_setCell_other _ _ _ _ (by intro e; have := congrArg Addr.block e; simp at this)).trans ((World.cell?_setCell_other _ _ _ _ (by intro e; have := congrArg Addr.block e; simp at this)).trans c0), (World.cell?_setCell_other _ _ _ _ (by intro e; have := congrArg Addr.block e; simp at this)).trans ((World.cell?_setCell_other _ _ _ _ (by intro e; have := congrArg Addr.block e; simp at this)).trans c1)⟩) | (simp [c0, c1]; done) | (trace_state; fail)))
        (fail)
      have F9 : Fr (fun y => y = w.heap.size) wr ((wr.setCell ⟨w.heap.size, 0, none⟩ (.int .i64 R.1)).setCell ⟨w.heap.size, 1, none⟩ (.slice ai m ci)).drew := ((Fr.cell ⟨w.heap.size, 0, none⟩ _).trans (Fr.cell (w := wr.setCell ⟨w.heap.size, 0, none⟩ (.int .i64 R.1)) ⟨w.heap.size, 1, none⟩ _)).trans (Fr.drew _)
      have BR := (((HGG.out.res.set 0 (.int .i64 R.1)).set 1 (.slice ai m ci)).fr (Fr.drew (S := fun _ => False) _) id)
      obtain ⟨⟨f0, f1⟩, _, _⟩ := BR.two
      have IT : ItemsF ((wr.setCell ⟨w.heap.size, 0, none⟩ (.int .i64 R.1)).setCell ⟨w.heap.size, 1, none⟩ (.slice ai m ci)).drew (w.heap.size + 2) (.slice ai m ci) R.2 := BI.out.fr F9 (fun y e => by show y < w.heap.size + 2; have e : y = w.heap.size := e; omega)
      have BE : Below w.heap.size w ((wr.setCell ⟨w.heap.size, 0, none⟩ (.int .i64 R.1)).setCell ⟨w.heap.size, 1, none⟩ (.slice ai m ci)).drew := Fr.below HGG.out.bel F9 (by omega) (fun y e => by show w.heap.size ≤ y; have e : y = w.heap.size := e; omega)
      clear c0 c1 r0 r1
      go_wp2
      exact bodyPost_ret (v := .tuple #[.agg #[.int .i64 R.1, .slice ai m ci], .bool (decide (0 < R.1))]) (by simp [results, Try.results30, go_sem, f0, f1]) rfl ⟨_, rfl, IT, BE⟩
end Go.Proofs.Ytenjpldinnbcbaa
/- What stands behind a log.Put; the example of chapter 12. -/

namespace Go.Proofs.Ytenjpldinnbcbaa
open Go.RowKit C
set_option linter.unusedVariables false
set_option linter.unusedSimpArgs false
set_option maxRecDepth 100000
set_option maxHeartbeats 1000000

theorem ris_mark {ls : List (List Nat)} (h : ris ls = true) : (ls.getD 0 [])[0]? = some 87 := by
  obtain ⟨h1, h2, h3⟩ := (ris_iff ls).1 h
  have h4 := renc_four (rnum ls) (rlist ls) ((rok_iff _ _).1 h2).2.1
  rw [h3] at h4
  have : ((ls.getD 0 []).take 4)[0]? = some 87 := by rw [h4]; rfl
  rwa [List.getElem?_take_of_lt (by decide)] at this
namespace B
theorem rows4_zeros {b : Bn} {d : Nat} (h : lookB b d 2 = List.replicate 32 0) : ris (rows4 b d 4) = false := by
  cases hr : ris (rows4 b d 4) with
  | false => rfl
  | true =>
    have hm := ris_mark hr
    have e : (rows4 b d 4).getD 0 [] = rd b d 0 := rfl
    rw [e] at hm
    unfold rd at hm
    split at hm
    · cases hm
    · rw [show 2 + 0 = 2 from rfl, h] at hm; simp at hm
theorem bestR_none {b : Bn} : ∀ {T : List Nat}, (∀ d ∈ T, ris (rows4 b d 4) = false) → bestR b T = (0, []) := by
  intro T h
  unfold bestR
  induction T with
  | nil => rfl
  | cons d T ih =>
    rw [List.foldl_cons]
    have : stR b (0, []) d = (0, []) := by unfold stR; rw [if_neg (fun hh => by rw [h d (List.mem_cons_self ..)] at hh; cases hh.1)]
    rw [this]
    exact ih (fun e he => h e (List.mem_cons_of_mem _ he))
end B
attribute [local irreducible] Go.Calls Byt Own Parts PA BA Bools OwnD OwnT OwnZ Items ItemsF
theorem wakes12_any (w : World) : Calls Try.prog 31 #[] w fun e w' => e = .returned (.bool true) ∧ Below w.heap.size w w' := by
  go_enter Try.func31, Try.ntmps31
  go_wp2_with fail
  refine Calls.mono (bnew_any w 3 (by decide) (by decide)) ?_
  rintro r w1 ⟨rfl, ⟨lv, hs, I1⟩, b1⟩
  have hlt1 := I1.lts
  have hsz1 : w.heap.size < w1.heap.size := I1.lt
  have T1 := (OwnT.lit w1 #[.bool true, .bool true, .bool true] [true, true, true] (n := 3) (g := w1.heap.size) rfl rfl rfl (by decide)).bools
  have HG := lget_any _ _ _ _ _ _ _ _ (I1.up (belA1 (o1 := .cells #[.bool true, .bool true, .bool true] 4) (belR _))) (B.Up.fresh 3).lv (by rw [B.fresh_len]; decide) T1
  rw [B.bestR_none (fun d hd => B.rows4_zeros (B.fresh_look 3 d 2 (by decide)))] at HG
  have HG := Lib.hid HG
  have I1 := Lib.hid I1
  go_wp2_with fail
  refine Calls.mono HG.out ?_
  rintro r w2 ⟨v, rfl, IF, b2⟩
  obtain ⟨ai, ci, rfl, _, _, _⟩ := IF.items.shape
  have B2 := belT (belA1 (belR w1)) b2
  have BX := belT (belT B2 (belA1 (o1 := .cells #[.int .i64 0, .slice ai ([] : List RI).length ci] 59) (belR w2))) (belA1 (o1 := .cells #[.bool true] 4) (belR _))
  have TX := (OwnT.lit (w2.alloc (.cells #[.int .i64 0, .slice ai ([] : List RI).length ci] 59)) #[.bool true] [true] (n := 1) (g := w2.heap.size + 1) (by simp) rfl rfl (by decide)).ba (S := ofB w.heap.size lv hs) (fun y hy => by have := hlt1 y hy; have := B2.size; simp; omega)
  have HP := lput_yes _ _ _ _ _ _ _ _ 1 (.slice none 0 0) [] (I1.out.up BX) (B.Up.fresh 3).pw (by have := BX.size; omega) TX (Items.nil _) rok_one (by rw [B.fresh_len]; decide) (B.fresh_p 3) (B.fresh_w 3)
  have HP := Lib.hid HP
  have hl := I1.out.ges
  clear B2 TX IF
  go_wp2_with fail
  refine Calls.mono HP.out ?_
  rintro r w3 ⟨rfl, hs3, I3, F3, q3⟩
  have BE := Fr.below (belT b1 BX) F3 (by have := (belT b1 BX).size; omega) hl
  clear I3 F3 q3
  go_wp2
  go_ret
  exact ⟨rfl, BE⟩
end Go.Proofs.Ytenjpldinnbcbaa
/- Plain law of LogGreatest; what stands behind a log.Put. -/

namespace Go.Proofs.Ytenjpldinnbcbaa
open Go.RowKit C
set_option linter.unusedVariables false
set_option linter.unusedSimpArgs false
set_option maxRecDepth 100000
set_option maxHeartbeats 1000000

namespace B
/-- the rows of a disk behind a Put -/
theorem rows4_put {c : Bn} (h : Pw c) (lv : List Bool) {s : Int} {l : List RI} (hk : rok s l = true) (hb : ∀ x ∈ l, ∀ y ∈ x.b, y < 256) {d : Nat} (hd : d < c.ds.length) (hf : failB c d = false) :
    rows4 (putR c lv (renc s l)) d 4 = if live1 lv d = true then renc s l else rows4 c d 4 := by
  obtain ⟨_, hn3, _⟩ := (rok_iff s l).1 hk
  have h4 := renc_len (s := s) hn3
  obtain ⟨_, _, _, _, f4, f5, _⟩ := putR_spec h lv (all := renc s l) (renc_32 hn3 (rok_fine hk)) (renc_byte hb) h4
  have e : ∀ i, i < 4 → rd (putR c lv (renc s l)) d i = if live1 lv d = true then (renc s l).getD i [] else rd c d i := fun i hi => by
    have e1 := f4 d hd
    have e2 := f5 d hd (2 + i) (by omega)
    rw [hf] at e1 e2
    have e3 : rd (putR c lv (renc s l)) d i = lookB (putR c lv (renc s l)) d (2 + i) := by unfold rd; rw [e1]; rfl
    have e4 : rd c d i = lookB c d (2 + i) := by unfold rd; rw [hf]; rfl
    rw [e3, e4]
    by_cases hv : live1 lv d = true
    · rw [if_pos ⟨hv, rfl, by omega, by omega⟩] at e2
      rw [e2, if_pos hv]
      congr 1; omega
    · rw [if_neg (fun h => hv h.1)] at e2
      rw [e2, if_neg hv]
  show [rd _ d 0, rd _ d 1, rd _ d 2, rd _ d 3] = _
  rw [e 0 (by decide), e 1 (by decide), e 2 (by decide), e 3 (by decide)]
  by_cases hv : live1 lv d = true
  · rw [if_pos hv, if_pos hv, if_pos hv, if_pos hv, if_pos hv]
    match renc s l, h4 with
    | [a, b, c, d], _ => rfl
  · rw [if_neg hv, if_neg hv, if_neg hv, if_neg hv, if_neg hv]; rfl
end B
/-- the mark of a disk -/
def itemG (d : Nat) : RI := ⟨(d : Int), 36, List.replicate 32 0⟩
theorem itemG_ok {s : Nat} (h1 : 1 ≤ s) (h2 : s ≤ 100) {d : Nat} (hd : d < 3) : rok (s : Int) [itemG d] = true := by
  rw [rok_iff]
  refine ⟨by omega, (show 1 ≤ 3 by decide), ?_⟩
  have : d = 0 ∨ d = 1 ∨ d = 2 := by omega
  rcases this with rfl | rfl | rfl <;> rfl
theorem itemG_byte (d : Nat) : ∀ x ∈ [itemG d], ∀ y ∈ x.b, y < 256 := by
  intro x hx y hy
  have : x = itemG d := by simpa using hx
  subst this
  rw [List.eq_of_mem_replicate hy]; decide
def lvG (j : Nat) : List Bool := [decide (j = 0), decide (j = 1), decide (j = 2)]
theorem lvG_live {j d : Nat} (hd : d < 3) : B.live1 (lvG j) d = decide (j = d) := by
  have : d = 0 ∨ d = 1 ∨ d = 2 := by omega
  rcases this with rfl | rfl | rfl <;> rfl
/-- behind some rounds -/
structure GI (S : Nat → Nat) (c : B.Bn) (j : Nat) : Prop where
  pw : B.Pw c
  len : c.ds.length = 3
  p : ∀ d ∈ c.ds, d.p.length ≤ 1000000
  w : 0 ≤ c.writes ∧ c.writes ≤ 100 * (j : Int)
  f : ∀ d, d < 3 → B.failB c d = false
  rows : ∀ d, d < 3 → if d < j then B.rows4 c d 4 = renc (S d) [itemG d] else ris (B.rows4 c d 4) = false
theorem GI.zero (S : Nat → Nat) : GI S (B.fresh 3) 0 where
  pw := (B.Up.fresh 3).pw
  len := B.fresh_len 3
  p := B.fresh_p 3
  w := ⟨Int.le_refl _, Int.le_refl _⟩
  f := fun d _ => by unfold B.failB; rw [B.fresh_at]; rfl
  rows := fun d _ => by rw [if_neg (by omega)]; exact B.rows4_zeros (B.fresh_look 3 d 2 (by decide))
theorem GI.step {S : Nat → Nat} {c : B.Bn} {j : Nat} (h : GI S c j) (hj : j < 3) (hS : 1 ≤ S j ∧ S j ≤ 100) : GI S (B.putR c (lvG j) (renc (S j) [itemG j])) (j + 1) := by
  have hk := itemG_ok hS.1 hS.2 hj
  have hl := h.len
  obtain ⟨_, hn3, _⟩ := (rok_iff _ _).1 hk
  obtain ⟨u1, w1, w2, l1, f1, k1, p1⟩ := B.putR_spec h.pw (lvG j) (all := renc (S j) [itemG j]) (renc_32 hn3 (rok_fine hk)) (renc_byte (itemG_byte j)) (renc_len hn3)
  have hw := h.w
  refine ⟨u1, l1.trans hl, fun d hd => ?_, by rw [hl] at w2; omega, fun d hd => by rw [f1 d (by rw [hl]; exact hd)]; exact h.f d hd, fun d hd => ?_⟩
  · obtain ⟨i, hi, rfl⟩ := List.getElem_of_mem hd
    have hi3 : i < c.ds.length := by rw [← l1]; exact hi
    have := p1 i hi3
    rw [B.at1_eq hi, B.at1_eq hi3] at this
    have := h.p _ (List.getElem_mem hi3)
    omega
  · rw [B.rows4_put h.pw (lvG j) hk (itemG_byte j) (by rw [hl]; exact hd) (h.f d hd), lvG_live hd]
    by_cases hjd : j = d
    · subst hjd
      rw [if_pos (by omega), if_pos (decide_eq_true rfl)]
    · have hr := h.rows d hd
      by_cases hdj : d < j
      · rw [if_pos (by omega), if_neg (by simpa using hjd)]; rw [if_pos hdj] at hr; exact hr
      · rw [if_neg (by omega), if_neg (by simpa using hjd)]; rw [if_neg hdj] at hr; exact hr
/-- the law's own choice -/
def gtG (S : Nat → Nat) (d : Nat) : Option Nat → Bool
  | none => true
  | some e => decide (S e < S d)
def stG (lv : List Bool) (S : Nat → Nat) (b : Option Nat) (d : Nat) : Option Nat :=
  if B.live1 lv d = true ∧ gtG S d b = true then some d else b
def bestG (lv : List Bool) (S : Nat → Nat) : Nat → Option Nat
  | 0 => none
  | n + 1 => stG lv S (bestG lv S n) n
def recG (S : Nat → Nat) : Option Nat → Int × List RI
  | none => (0, [])
  | some d => ((S d : Int), [itemG d])
theorem GI.best {S : Nat → Nat} {c : B.Bn} (h : GI S c 3) (hS : ∀ d, d < 3 → 1 ≤ S d ∧ S d ≤ 100) (lv : List Bool) : ∀ n, n ≤ 3 → B.bestR c (onL lv n) = recG S (bestG lv S n) := by
  intro n
  induction n with
  | zero => intro _; rfl
  | succ n ih =>
    intro hn
    have hi := ih (by omega)
    have hr := h.rows n (by omega)
    rw [if_pos (by omega)] at hr
    have hk := itemG_ok (hS n (by omega)).1 (hS n (by omega)).2 (show n < 3 by omega)
    by_cases hl : B.live1 lv n = true
    · have e : B.bestR c (onL lv (n + 1)) = B.stR c (B.bestR c (onL lv n)) n := by unfold B.bestR; rw [onL_yes hl, List.foldl_append]; rfl
      rw [e, hi]
      unfold B.stR
      rw [hr, ris_enc hk, rnum_enc hk, rlist_enc hk]
      show _ = recG S (stG lv S (bestG lv S n) n)
      unfold stG
      cases hb : bestG lv S n with
      | none =>
        rw [if_pos ⟨rfl, by show (0 : Int) < _; have := (hS n (by omega)).1; omega⟩, if_pos ⟨hl, rfl⟩]; rfl
      | some e =>
        by_cases hlt : S e < S n
        · rw [if_pos ⟨rfl, by show ((S e : Nat) : Int) < _; omega⟩, if_pos ⟨hl, decide_eq_true hlt⟩]; rfl
        · rw [if_neg (fun h => hlt (by have h2 : ((S e : Nat) : Int) < ((S n : Nat) : Int) := h.2; omega)), if_neg (fun h => hlt (of_decide_eq_true h.2))]
    · rw [onL_no (by simpa using hl), hi]
      show _ = recG S (stG lv S (bestG lv S n) n)
      unfold stG
      rw [if_neg (fun h => hl h.1)]
end Go.Proofs.Ytenjpldinnbcbaa
