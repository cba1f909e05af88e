/- The law SlotsTurns (chapter 10). True at every input. -/
import Derived.Test.YtenjpldinnbcbaaSlT
import Derived.Deep.CutRange
import Derived.Deep.RegionHeld3
namespace Go.Proofs.Ytenjpldinnbcbaa
open Go.RowKit C
set_option linter.unusedVariables false
set_option linter.unusedSimpArgs false
set_option maxRecDepth 100000
set_option maxHeartbeats 2000000

/-- behind some rounds -/
def TJ (W : World) (F : Nat → Sup) (lv : Value) (ga : Nat) (g : Nat) (Xs : Nat → Bool) (X : World) : Prop :=
  ∃ hs c, IsBench X W.heap.size W.heap.size lv hs c ∧ TI F c g Xs ∧ BA (ofB W.heap.size lv hs) X (.slice (some ⟨ga, 0, none⟩) 3 3) [true, true, true] ∧ Below W.heap.size W X
attribute [local irreducible] Go.Calls Byt Own Parts PA BA Bools OwnD OwnT OwnS
theorem slotsTurns_law (n0 : Int) (hn : -9223372036854775808 ≤ n0 ∧ n0 ≤ 9223372036854775807) (sp : Int) (hsp : -9223372036854775808 ≤ sp ∧ sp ≤ 9223372036854775807) (all : Bool) (W : World) :
    Calls Try.prog 10 #[.int .i64 n0, .int .i64 sp, .bool all] W fun e W' => e = .returned (.bool true) ∧ Below W.heap.size W W' := by
  have hex : ∀ g : Nat, ∃ s : Sup, 1 ≤ g → g ≤ 100 → (s.ok = true ∧ s.gen = (g : Int) ∧ ∀ w, Calls Try.prog 37 #[.int .i64 (g : Int), .int .i64 ((5 * g : Nat) : Int)] w fun e w' => e = .returned (sv s) ∧ Below w.heap.size w w') := by
    intro g
    by_cases hg : 1 ≤ g ∧ g ≤ 100
    · obtain ⟨G, ep, hG, hep, hone⟩ := one_fix ((5 * g : Nat) : Int) (by unfold i64b; omega)
      exact ⟨supG G ep g, fun _ _ => ⟨supG_ok hG hep (by omega) (by omega), rfl, hone (g : Int)⟩⟩
    · exact ⟨Sup.zero, fun h1 h2 => absurd ⟨h1, h2⟩ hg⟩
  obtain ⟨F, hF⟩ := Classical.axiomOfChoice hex
  have HF : Gens F := ⟨fun g h1 h2 => (hF g h1 h2).1, fun g h1 h2 => (hF g h1 h2).2.1⟩
  have hone : ∀ g, 1 ≤ g → g ≤ 100 → ∀ w, _ := fun g h1 h2 => (hF g h1 h2).2.2
  have hst := fun (g : Nat) (h1 : 1 ≤ g) (h2 : g ≤ 100) (w : World) base gb lv hs b vv lvs h hU hb0 hL hn hp hw => store_yes w base gb lv hs b vv lvs (F g) h hU hb0 hL (HF.ok g h1 h2) hn hp hw
  have hby := fun (g : Nat) (h1 : 1 ≤ g) (h2 : g ≤ 100) (w : World) base gb lv hs b h hL hn hb => best_yes w base gb lv hs b h hL hn (F g) hb (by rw [HF.gen g h1 h2]; omega)
  have hq := fun (g : Nat) w => seq_run (F g) (F g) w
  obtain ⟨k8, e8, l8, W8⟩ := within_nat n0 8 (by decide) (by decide) hn
  obtain ⟨k3, e3, l3, W3⟩ := within_nat sp 3 (by decide) (by decide) hsp
  obtain ⟨N, hN⟩ : ∃ N, N = 2 + k8 := ⟨_, rfl⟩
  have hN2 : IntKind.i64.wrap (2 + (k8 : Int)) = (N : Int) := by rw [IntKind.wrap_i64]; omega
  have HN := Lib.hid (show 2 ≤ N ∧ N ≤ 9 by omega)
  have HK3 := Lib.hid (show k3 < 3 by omega)
  unfold sv at hone hst hby hq
  have HONE := Lib.hid hone
  have HST := Lib.hid hst
  have HBY := Lib.hid hby
  have HQ := Lib.hid hq
  have HFF := Lib.hid HF
  clear hex hF HF hone hst hby hq e8 l8 e3 l3 hN hn hsp
  go_enter Try.func10, Try.ntmps10
  go_wp2_with fail
  refine Calls.mono (bnew_any W 3 (by decide) (by decide)) ?_
  rintro r w1 ⟨rfl, ⟨lv, hs, I1⟩, b1⟩
  have hlt1 := I1.lts
  have hsz1 : W.heap.size < w1.heap.size := I1.lt
  have HM0 : Hid (TJ W F lv w1.heap.size 0 (fun _ => false) (w1.alloc (.cells #[.bool true, .bool true, .bool true] 4))) :=
    ⟨hs, B.fresh 3, I1.up (belA1 (belR _)), TI.zero F, (OwnT.lit w1 #[.bool true, .bool true, .bool true] [true, true, true] (n := 3) (g := w1.heap.size) rfl rfl rfl (by decide)).ba hlt1, belA1 b1⟩
  clear I1 hlt1 b1
  go_wp2_with fail
  refine Calls.mono (W8.out _) ?_
  rintro r w2 ⟨rfl, rfl⟩
  go_wp2
  go_loopw [10] (fun gv X => ∃ j : Nat, j ≤ N ∧ gv = .int .i64 ((j + 1 : Nat) : Int) ∧ Hid (TJ W F lv w1.heap.size j (fun _ => false) X)) (fun gv _ => N + 1 - (intOf gv).toNat)
  case atStart => exact ⟨0, Nat.zero_le _, rfl, HM0⟩
  case round =>
    obtain ⟨j, hjN, rfl, HM⟩ := hrel
    obtain ⟨g, hg⟩ : ∃ g, g = j + 1 := ⟨_, rfl⟩
    rw [← hg]
    by_cases hlt : j < N
    · have g1 : decide ((g : Int) ≤ (N : Int)) = true := decide_eq_true (by omega)
      have g2 : (g : Int) ≤ (N : Int) := by omega
      have g2' : g ≤ N := by omega
      obtain ⟨g', hg'⟩ : ∃ g', g' = g + 1 := ⟨_, rfl⟩
      have g3 : IntKind.i64.wrap ((g : Int) + 1) = (g' : Int) := by rw [IntKind.wrap_i64]; have := HN.out; omega
      have g4 : IntKind.i64.wrap (5 * (g : Int)) = ((5 * g : Nat) : Int) := by rw [IntKind.wrap_i64]; have := HN.out; omega
      obtain ⟨m5, hm5⟩ : ∃ m5, m5 = 5 * g := ⟨_, rfl⟩
      rw [← hm5] at g4
      have HG := Lib.hid (show 1 ≤ g ∧ g ≤ 100 ∧ g = j + 1 ∧ j < N ∧ g' = g + 1 by have := HN.out; omega)
      have HO : Hid (∀ w, _) := Lib.hid (HONE.out g HG.out.1 HG.out.2.1)
      rw [← hm5] at HO
      obtain ⟨s, hs'⟩ : ∃ s, s = F g := ⟨_, rfl⟩
      rw [← hs'] at HO
      have HSF := Lib.hid hs'
      obtain ⟨hs1, c, I1, T1, A1, BW⟩ := HM.out
      have I1 := Lib.hid I1
      have T1 := Lib.hid T1
      have A1 := Lib.hid A1
      clear hlt hg hg' hm5 hs' hjN HM HM0
      go_wp2_with fail
      refine Calls.mono (HO.out wr) ?_
      rintro r w3 ⟨rfl, b3⟩
      have HPUT := HST.out g HG.out.1 HG.out.2.1 w3 _ _ _ _ _ _ _ (I1.out.up b3) T1.out.pw (by have := (belT BW b3).size; omega) (A1.out.up b3) (by rw [T1.out.len]; decide) T1.out.p (by have := T1.out.w; have := HN.out; have := HG.out; omega)
      rw [HFF.out.slot HG.out.1 HG.out.2.1, ← HSF.out] at HPUT
      have HPUT := Lib.hid HPUT
      have A3 := Lib.hid (A1.out.up b3)
      have I3 := Lib.hid (I1.out.up b3)
      have BW3 := belT BW b3
      go_wp2_with fail
      refine Calls.mono HPUT.out ?_
      rintro r w4 ⟨rfl, hs4, I4, F4, q4⟩
      have A4 := Lib.hid (A3.out.step F4 q4)
      have B4 := Fr.below BW3 F4 (by have := BW3.size; omega) I3.out.ges
      have I4 := Lib.hid I4
      have T4 : Hid (TI F (B.storeB c [true, true, true] (g % 2) s.enc) g (fun _ => false)) := by
        have := T1.out.step HFF.out (by have := HG.out; omega)
        rw [← HG.out.2.2.1, ← HSF.out] at this
        exact this
      have HB := HBY.out g HG.out.1 HG.out.2.1 w4 _ _ _ _ _ I4.out T4.out.pw.lv (by rw [T4.out.len]; decide) (T4.out.best HFF.out HG.out.1 HG.out.2.1 (d := 0) (by decide) rfl)
      rw [← HSF.out] at HB
      have HB := Lib.hid HB
      clear F4 q4 HPUT b3 BW
      go_wp2_with fail
      refine Calls.mono HB.out ?_
      rintro r w5 ⟨hv, rfl, _, b5⟩
      obtain ⟨c4, hc4⟩ : ∃ c4, c4 = B.storeB c [true, true, true] (g % 2) s.enc := ⟨_, rfl⟩
      go_upto_region 12 with (fail)
      obtain ⟨X5, hX5⟩ : ∃ X5, X5 = w5.alloc (.cells #[.int .i64 s.gen, .int .i64 s.a.l, .int .i64 s.a.d, .int .i64 s.a.c, .int .i64 s.b.l, .int .i64 s.b.d, .int .i64 s.b.c, .bool s.run, .int .i64 s.win, .int .i64 s.ep, .int .i64 s.out] 72) := ⟨_, rfl⟩
      have bx5 : Below w5.heap.size w5 X5 := by rw [hX5]; exact belA1 (belR _)
      have hbx : Box X5 w5.heap.size (scl s) := by rw [hX5]; exact Box.new w5 (scl s) 72
      have HK : Hid (∀ Y, Below X5.heap.size X5 Y → (Y.cell? ⟨w5.heap.size, 0, none⟩ = some (.int .i64 s.gen) ∧ Y.cell? ⟨w5.heap.size, 1, none⟩ = some (.int .i64 s.a.l) ∧ Y.cell? ⟨w5.heap.size, 2, none⟩ = some (.int .i64 s.a.d) ∧ Y.cell? ⟨w5.heap.size, 3, none⟩ = some (.int .i64 s.a.c) ∧ Y.cell? ⟨w5.heap.size, 4, none⟩ = some (.int .i64 s.b.l) ∧ Y.cell? ⟨w5.heap.size, 5, none⟩ = some (.int .i64 s.b.d) ∧ Y.cell? ⟨w5.heap.size, 6, none⟩ = some (.int .i64 s.b.c) ∧ Y.cell? ⟨w5.heap.size, 7, none⟩ = some (.bool s.run) ∧ Y.cell? ⟨w5.heap.size, 8, none⟩ = some (.int .i64 s.win) ∧ Y.cell? ⟨w5.heap.size, 9, none⟩ = some (.int .i64 s.ep) ∧ Y.cell? ⟨w5.heap.size, 10, none⟩ = some (.int .i64 s.out))) := Lib.hid (fun Y hY => (hbx.fr (Fr.of_below (S := fun _ => False) hY) id).sup)
      rw [← hX5]
      have hqq : ∀ w, _ := HQ.out g
      rw [← HSF.out, (Sup.same_iff s s).2 rfl] at hqq
      have BX := belT b5 bx5
      have HX5 := Lib.hid hX5
      clear hX5 hbx b5 bx5
      go_cut [63] from 54 to 62 (fun bv Y => bv = .bool false ∧ Below X5.heap.size X5 Y)
      case first =>
        go_region_held3 (fun Y => Y.cell? ⟨w5.heap.size, 0, none⟩ = some (.int .i64 s.gen) ∧ Y.cell? ⟨w5.heap.size, 1, none⟩ = some (.int .i64 s.a.l) ∧ Y.cell? ⟨w5.heap.size, 2, none⟩ = some (.int .i64 s.a.d) ∧ Y.cell? ⟨w5.heap.size, 3, none⟩ = some (.int .i64 s.a.c) ∧ Y.cell? ⟨w5.heap.size, 4, none⟩ = some (.int .i64 s.b.l) ∧ Y.cell? ⟨w5.heap.size, 5, none⟩ = some (.int .i64 s.b.d) ∧ Y.cell? ⟨w5.heap.size, 6, none⟩ = some (.int .i64 s.b.c) ∧ Y.cell? ⟨w5.heap.size, 7, none⟩ = some (.bool s.run) ∧ Y.cell? ⟨w5.heap.size, 8, none⟩ = some (.int .i64 s.win) ∧ Y.cell? ⟨w5.heap.size, 9, none⟩ = some (.int .i64 s.ep) ∧ Y.cell? ⟨w5.heap.size, 10, none⟩ = some (.int .i64 s.out))
          ((refine HK.out _ ?_; iterate 8 try (first | assumption | apply belDr | apply belAlloc | exact belR _)))
          ((go_at_call 37; refine Calls.mono (HO.out _) ?_; rintro e wx ⟨rfl, bx⟩; have bx1 := belT (show Below X5.heap.size X5 _ from (by iterate 8 try (first | exact belR _ | apply belDr))) bx))
        go_wp2
        go_meet
        case rel => exact ⟨rfl, bx1⟩
      obtain ⟨rfl, Bc⟩ := hcut
      have BT := belT BX Bc
      have HNX : Hid (TJ W F lv w1.heap.size g (fun _ => false) wc) := ⟨hs4, _, I4.out.up BT, T4.out, A4.out.up BT, belT B4 BT⟩
      go_wp2
      go_roundw
      case rel => exact ⟨g, by have := HG.out; omega, by have := HG.out; show _ = Value.int .i64 _; rw [this.2.2.2.2], HNX⟩
      case measure => have := HG.out; simp [intOf]; omega
    · have hje : j = N := by omega
      subst hje
      have g1 : decide ((g : Int) ≤ (j : Int)) = false := decide_eq_false (by omega)
      have g2 : ((g : Int) ≤ (j : Int)) = False := eq_false (by omega)
      obtain ⟨a2, ha2⟩ : ∃ a2, a2 = j % 2 := ⟨_, rfl⟩
      have ha3 : ((j : Int)).tmod 2 = (a2 : Int) := by rw [ha2]; rfl
      have ha4 : (a2 : Int) < 2 := by omega
      have ha5 : (0 : Int) ≤ (a2 : Int) := by omega
      have ha6 : a2 < 2 := by omega
      have hl01 := lit01 a2 (by omega)
      have HA2 := Lib.hid ha2
      have HM1 : Hid (∀ o, TJ W F lv w1.heap.size j (XsF all k3 0) (wr.alloc o)) := by
        rw [XsF_zero]
        obtain ⟨hs1, c, I1, T1, A1, BW⟩ := HM.out
        exact Lib.hid (fun o => ⟨hs1, c, I1.up (belA1 (belR _)), T1, A1.up (belA1 (belR _)), belA1 BW⟩)
      clear hg hlt hjN HM HM0 ha2
      go_upto_region 14 with (fail)
      go_cut [14] from 64 to 68 (fun v X => v = .int .i64 (a2 : Int) ∧ wr.alloc (.cells #[.int .i64 0, .int .i64 1] 3) = X)
      case first =>
        have h01 : a2 = 0 ∨ a2 = 1 := by omega
        clear hl01
        rcases h01 with rfl | rfl
        · go_wp2_with fail
          go_meet
          case rel => exact ⟨rfl, rfl⟩
        · go_wp2_with fail
          go_meet
          case rel => exact ⟨rfl, rfl⟩
      obtain ⟨rfl, rfl⟩ := hcut
      clear hl01
      go_wp2_with fail
      refine Calls.mono (W3.out _) ?_
      rintro r w3 ⟨rfl, rfl⟩
      go_wp2
      go_loopw [16] (fun dv X => ∃ d : Nat, d ≤ 3 ∧ dv = .int .i64 d ∧ Hid (TJ W F lv w1.heap.size j (XsF all k3 d) X)) (fun dv _ => 3 - (intOf dv).toNat)
      case atStart => exact ⟨0, Nat.zero_le _, rfl, Lib.hid (HM1.out _)⟩
      case round =>
        obtain ⟨d, hd3, rfl, HD⟩ := hrel
        by_cases hdl : d < 3
        · have d1 : (d : Int) < 3 := by omega
          have d1' : decide ((d : Int) < 3) = true := decide_eq_true d1
          have d0 : (0 : Int) ≤ (d : Int) := by omega
          have d2 : IntKind.i64.wrap ((d : Int) + 1) = ((d + 1 : Nat) : Int) := by rw [IntKind.wrap_i64]; omega
          have HDL := Lib.hid hdl
          obtain ⟨sel, hsel⟩ : ∃ sel, sel = (all || decide (d = k3)) := ⟨_, rfl⟩
          have HSEL := Lib.hid hsel
          clear hsel hdl hd3
          go_upto_region 19 with (fail)
          go_cut [80] from 75 to 79 (fun b Y => b = .bool sel ∧ wr = Y)
          case first =>
            cases all with
            | true =>
              go_wp2_with fail
              go_meet
              case rel => exact ⟨by rw [HSEL.out]; rfl, rfl⟩
            | false =>
              by_cases hk : d = k3
              · have hkk : ((d : Int) == (k3 : Int)) = true := by simp [hk]
                have HS2 : Hid (sel = true) := by rw [HSEL.out]; exact Lib.hid (decide_eq_true hk)
                clear hk
                go_wp2_with fail
                go_meet
                case rel => exact ⟨by rw [HS2.out], rfl⟩
              · have hkk : ((d : Int) == (k3 : Int)) = false := by simp; omega
                have HS2 : Hid (sel = false) := by rw [HSEL.out]; exact Lib.hid (decide_eq_false hk)
                have HKN := Lib.hid hk
                clear hk
                go_wp2_with fail
                go_meet
                case rel => exact ⟨by rw [HS2.out], rfl⟩
          obtain ⟨rfl, rfl⟩ := hcut
          cases sel with
          | false =>
            have HD2 : Hid (TJ W F lv w1.heap.size j (XsF all k3 (d + 1)) wr) := by
              rw [XsF_no HSEL.out.symm]
              exact HD
            clear HD
            go_wp2
            go_roundw
            case rel => exact ⟨d + 1, HDL.out, by go_num, HD2⟩
            case measure => have := HDL.out; simp [intOf]; omega
          | true =>
            obtain ⟨hs1, c, I1, T1, A1, BW⟩ := HD.out
            have I1 := Lib.hid I1
            have T1 := Lib.hid T1
            have A1 := Lib.hid A1
            clear HD
            go_wp2_with fail
            refine Calls.mono (sector_any _ wr (wrap64_in _)) ?_
            rintro r w5 ⟨xv, rfl, O5, b5⟩
            have hlt := I1.out.lts
            have HDM := bdmg_any w5 _ _ _ _ _ d a2 xv _ (I1.out.up b5) (by rw [T1.out.len]; exact HDL.out) O5.byt (by have := (belT BW b5).size; omega) T1.out.p
            have HDM := Lib.hid HDM
            have A5 := Lib.hid (A1.out.up b5)
            have I5 := Lib.hid (I1.out.up b5)
            have BW5 := belT BW b5
            obtain ⟨ao, cap, rfl, _, _⟩ := O5.byt.shape
            clear O5 b5 hlt BW
            go_wp2_with fail
            refine Calls.mono HDM.out ?_
            rintro r w6 ⟨⟨er, rfl⟩, hs6, I6, F6, q6⟩
            rw [HA2.out] at I6
            have T6 := T1.out.spoil HDL.out (wrap64 (wrap64 (sp * 2) + 1))
            have HD2 : Hid (TJ W F lv w1.heap.size j (XsF all k3 (d + 1)) w6) := by
              rw [XsF_yes HSEL.out.symm]
              exact ⟨hs6, _, I6, T6, A5.out.step F6 q6, Fr.below BW5 F6 (by have := BW5.size; omega) I5.out.ges⟩
            clear I6 F6 q6 HDM T6
            go_wp2
            go_roundw
            case rel => exact ⟨d + 1, HDL.out, by go_num, HD2⟩
            case measure => have := HDL.out; simp [intOf]; omega
        · have hde : d = 3 := by omega
          subst hde
          obtain ⟨hs1, c, I1, T1, A1, BW⟩ := HD.out
          have I1 := Lib.hid I1
          have T1 := Lib.hid T1
          have HK3' := HK3
          clear HD
          cases all with
          | true =>
            obtain ⟨g, hg⟩ : ∃ g, g = j - 1 := ⟨_, rfl⟩
            have HG := Lib.hid (show 1 ≤ g ∧ g ≤ 100 ∧ g ≤ j by have := HN.out; omega)
            have hbest : B.bestN c c.ds.length = F g := by
              rw [hg]
              exact T1.out.best_old HFF.out HN.out.1 (by have := HN.out; omega) (fun d hd => by unfold XsF; simp; omega)
            have hg1 : IntKind.i64.wrap ((j : Int) - 1) = ((j - 1 : Nat) : Int) := by rw [IntKind.wrap_i64]; have := HN.out; omega
            rw [← hg] at hg1
            have g4 : IntKind.i64.wrap (5 * (g : Int)) = ((5 * g : Nat) : Int) := by rw [IntKind.wrap_i64]; have := HN.out; have := HG.out; omega
            obtain ⟨m5, hm5⟩ : ∃ m5, m5 = 5 * g := ⟨_, rfl⟩
            rw [← hm5] at g4
            have HO : Hid (∀ w, _) := Lib.hid (HONE.out g HG.out.1 HG.out.2.1)
            rw [← hm5] at HO
            have HB := HBY.out g HG.out.1 HG.out.2.1 wr _ _ _ _ _ I1.out T1.out.pw.lv (by rw [T1.out.len]; decide) hbest
            rw [T1.out.near HFF.out HN.out.1 (by have := HN.out; omega) (by rw [HFF.out.gen g HG.out.1 HG.out.2.1]; have := HG.out; omega)] at HB
            obtain ⟨s, hs'⟩ : ∃ s, s = F g := ⟨_, rfl⟩
            rw [← hs'] at HO HB
            have HSF := Lib.hid hs'
            have HB := Lib.hid HB
            clear hbest hm5 hs'
            clear hg
            go_wp2_with fail
            refine Calls.mono HB.out ?_
            rintro r w5 ⟨hv, rfl, O5, b5⟩
            obtain ⟨av, cv, rfl, _, _⟩ := O5.bools.shapeB
            obtain ⟨bv, ov, x0, e0, d0, y0⟩ := O5.bools.cellAt (k := 0) (by decide)
            subst e0
            obtain ⟨bv', ov', x1, e1, d1, y1⟩ := O5.bools.cellAt (k := 1) (by decide)
            cases e1
            obtain ⟨bv', ov', x2, e2, d2, y2⟩ := O5.bools.cellAt (k := 2) (by decide)
            cases e2
            cases y0.out
            cases y1.out
            cases y2.out
            rw [Nat.add_zero] at d0
            have hbl : bv < w5.heap.size := O5.lts _ rfl
            go_upto_region 25 with (fail)
            obtain ⟨X5, hX5⟩ : ∃ X5, X5 = w5.alloc (.cells #[.int .i64 s.gen, .int .i64 s.a.l, .int .i64 s.a.d, .int .i64 s.a.c, .int .i64 s.b.l, .int .i64 s.b.d, .int .i64 s.b.c, .bool s.run, .int .i64 s.win, .int .i64 s.ep, .int .i64 s.out] 72) := ⟨_, rfl⟩
            have bx5 : Below w5.heap.size w5 X5 := by rw [hX5]; exact belA1 (belR _)
            have hbx : Box X5 w5.heap.size (scl s) := by rw [hX5]; exact Box.new w5 (scl s) 72
            have HK : Hid (∀ Y, Below X5.heap.size X5 Y → (Y.cell? ⟨w5.heap.size, 0, none⟩ = some (.int .i64 s.gen) ∧ Y.cell? ⟨w5.heap.size, 1, none⟩ = some (.int .i64 s.a.l) ∧ Y.cell? ⟨w5.heap.size, 2, none⟩ = some (.int .i64 s.a.d) ∧ Y.cell? ⟨w5.heap.size, 3, none⟩ = some (.int .i64 s.a.c) ∧ Y.cell? ⟨w5.heap.size, 4, none⟩ = some (.int .i64 s.b.l) ∧ Y.cell? ⟨w5.heap.size, 5, none⟩ = some (.int .i64 s.b.d) ∧ Y.cell? ⟨w5.heap.size, 6, none⟩ = some (.int .i64 s.b.c) ∧ Y.cell? ⟨w5.heap.size, 7, none⟩ = some (.bool s.run) ∧ Y.cell? ⟨w5.heap.size, 8, none⟩ = some (.int .i64 s.win) ∧ Y.cell? ⟨w5.heap.size, 9, none⟩ = some (.int .i64 s.ep) ∧ Y.cell? ⟨w5.heap.size, 10, none⟩ = some (.int .i64 s.out) ∧ Y.cell? ⟨bv, ov, none⟩ = some (.bool true) ∧ Y.cell? ⟨bv, ov + 1, none⟩ = some (.bool true) ∧ Y.cell? ⟨bv, ov + 2, none⟩ = some (.bool true))) := by
              show ∀ Y, _
              intro Y hY
              obtain ⟨f0, f1, f2, f3, f4, f5, f6, f7, f8, f9, f10⟩ := (hbx.fr (Fr.of_below (S := fun _ => False) hY) id).sup
              have hk := belT bx5 hY
              exact ⟨f0, f1, f2, f3, f4, f5, f6, f7, f8, f9, f10, (hk.cell (p := ⟨bv, ov, none⟩) hbl).trans d0, (hk.cell (p := ⟨bv, ov + 1, none⟩) hbl).trans d1, (hk.cell (p := ⟨bv, ov + 2, none⟩) hbl).trans d2⟩
            rw [← hX5]
            have hqq : ∀ w, _ := HQ.out g
            rw [← HSF.out, (Sup.same_iff s s).2 rfl] at hqq
            have BX := belT BW (belT b5 bx5)
            clear hX5 hbx b5 bx5 O5 d0 d1 d2
            go_region_held3 (fun Y => Y.cell? ⟨w5.heap.size, 0, none⟩ = some (.int .i64 s.gen) ∧ Y.cell? ⟨w5.heap.size, 1, none⟩ = some (.int .i64 s.a.l) ∧ Y.cell? ⟨w5.heap.size, 2, none⟩ = some (.int .i64 s.a.d) ∧ Y.cell? ⟨w5.heap.size, 3, none⟩ = some (.int .i64 s.a.c) ∧ Y.cell? ⟨w5.heap.size, 4, none⟩ = some (.int .i64 s.b.l) ∧ Y.cell? ⟨w5.heap.size, 5, none⟩ = some (.int .i64 s.b.d) ∧ Y.cell? ⟨w5.heap.size, 6, none⟩ = some (.int .i64 s.b.c) ∧ Y.cell? ⟨w5.heap.size, 7, none⟩ = some (.bool s.run) ∧ Y.cell? ⟨w5.heap.size, 8, none⟩ = some (.int .i64 s.win) ∧ Y.cell? ⟨w5.heap.size, 9, none⟩ = some (.int .i64 s.ep) ∧ Y.cell? ⟨w5.heap.size, 10, none⟩ = some (.int .i64 s.out) ∧ Y.cell? ⟨bv, ov, none⟩ = some (.bool true) ∧ Y.cell? ⟨bv, ov + 1, none⟩ = some (.bool true) ∧ Y.cell? ⟨bv, ov + 2, none⟩ = some (.bool true))
              ((refine HK.out _ ?_; iterate 8 try (first | assumption | apply belDr | apply belAlloc | exact belR _)))
              ((first
                | (go_at_call 37; refine Calls.mono (HO.out _) ?_; rintro e wx ⟨rfl, bx⟩; have bx1 := belT (show Below X5.heap.size X5 _ from (by iterate 8 try (first | exact belR _ | apply belDr))) bx)
                | (go_at_call 42; refine Calls.mono (wakes10_any _) ?_; rintro e wy ⟨rfl, by1⟩; have by2 := belT (show Below X5.heap.size X5 _ from (by iterate 8 try (first | assumption | exact belR _ | apply belDr))) by1)))
            go_wp2
            go_ret
            exact ⟨rfl, belT BX (by iterate 8 try (first | assumption | apply belDr | apply belAlloc | exact belR _))⟩
          | false =>
            obtain ⟨g, hg⟩ : ∃ g, g = j := ⟨_, rfl⟩
            have HG := Lib.hid (show 1 ≤ g ∧ g ≤ 100 ∧ g ≤ j by have := HN.out; omega)
            have hbest : B.bestN c c.ds.length = F g := by
              rw [hg]
              exact T1.out.best HFF.out (by have := HN.out; omega) (by have := HN.out; omega) (d := if k3 = 0 then 1 else 0) (by split <;> decide) (by unfold XsF; simp; split <;> omega)
            have hg1 : IntKind.i64.wrap ((j : Int) - 1) = ((j - 1 : Nat) : Int) := by rw [IntKind.wrap_i64]; have := HN.out; omega
            clear hg1
            have g4 : IntKind.i64.wrap (5 * (g : Int)) = ((5 * g : Nat) : Int) := by rw [IntKind.wrap_i64]; have := HN.out; have := HG.out; omega
            obtain ⟨m5, hm5⟩ : ∃ m5, m5 = 5 * g := ⟨_, rfl⟩
            rw [← hm5] at g4
            have HO : Hid (∀ w, _) := Lib.hid (HONE.out g HG.out.1 HG.out.2.1)
            rw [← hm5] at HO
            have HB := HBY.out g HG.out.1 HG.out.2.1 wr _ _ _ _ _ I1.out T1.out.pw.lv (by rw [T1.out.len]; decide) hbest
            rw [T1.out.near HFF.out HN.out.1 (by have := HN.out; omega) (by rw [HFF.out.gen g HG.out.1 HG.out.2.1]; have := HG.out; omega)] at HB
            obtain ⟨s, hs'⟩ : ∃ s, s = F g := ⟨_, rfl⟩
            rw [← hs'] at HO HB
            have HSF := Lib.hid hs'
            have HB := Lib.hid HB
            clear hbest hm5 hs'
            subst hg
            go_wp2_with fail
            refine Calls.mono HB.out ?_
            rintro r w5 ⟨hv, rfl, O5, b5⟩
            obtain ⟨av, cv, rfl, _, _⟩ := O5.bools.shapeB
            obtain ⟨bv, ov, x0, e0, d0, y0⟩ := O5.bools.cellAt (k := 0) (by decide)
            subst e0
            obtain ⟨bv', ov', x1, e1, d1, y1⟩ := O5.bools.cellAt (k := 1) (by decide)
            cases e1
            obtain ⟨bv', ov', x2, e2, d2, y2⟩ := O5.bools.cellAt (k := 2) (by decide)
            cases e2
            cases y0.out
            cases y1.out
            cases y2.out
            rw [Nat.add_zero] at d0
            have hbl : bv < w5.heap.size := O5.lts _ rfl
            go_upto_region 25 with (fail)
            obtain ⟨X5, hX5⟩ : ∃ X5, X5 = w5.alloc (.cells #[.int .i64 s.gen, .int .i64 s.a.l, .int .i64 s.a.d, .int .i64 s.a.c, .int .i64 s.b.l, .int .i64 s.b.d, .int .i64 s.b.c, .bool s.run, .int .i64 s.win, .int .i64 s.ep, .int .i64 s.out] 72) := ⟨_, rfl⟩
            have bx5 : Below w5.heap.size w5 X5 := by rw [hX5]; exact belA1 (belR _)
            have hbx : Box X5 w5.heap.size (scl s) := by rw [hX5]; exact Box.new w5 (scl s) 72
            have HK : Hid (∀ Y, Below X5.heap.size X5 Y → (Y.cell? ⟨w5.heap.size, 0, none⟩ = some (.int .i64 s.gen) ∧ Y.cell? ⟨w5.heap.size, 1, none⟩ = some (.int .i64 s.a.l) ∧ Y.cell? ⟨w5.heap.size, 2, none⟩ = some (.int .i64 s.a.d) ∧ Y.cell? ⟨w5.heap.size, 3, none⟩ = some (.int .i64 s.a.c) ∧ Y.cell? ⟨w5.heap.size, 4, none⟩ = some (.int .i64 s.b.l) ∧ Y.cell? ⟨w5.heap.size, 5, none⟩ = some (.int .i64 s.b.d) ∧ Y.cell? ⟨w5.heap.size, 6, none⟩ = some (.int .i64 s.b.c) ∧ Y.cell? ⟨w5.heap.size, 7, none⟩ = some (.bool s.run) ∧ Y.cell? ⟨w5.heap.size, 8, none⟩ = some (.int .i64 s.win) ∧ Y.cell? ⟨w5.heap.size, 9, none⟩ = some (.int .i64 s.ep) ∧ Y.cell? ⟨w5.heap.size, 10, none⟩ = some (.int .i64 s.out) ∧ Y.cell? ⟨bv, ov, none⟩ = some (.bool true) ∧ Y.cell? ⟨bv, ov + 1, none⟩ = some (.bool true) ∧ Y.cell? ⟨bv, ov + 2, none⟩ = some (.bool true))) := by
              show ∀ Y, _
              intro Y hY
              obtain ⟨f0, f1, f2, f3, f4, f5, f6, f7, f8, f9, f10⟩ := (hbx.fr (Fr.of_below (S := fun _ => False) hY) id).sup
              have hk := belT bx5 hY
              exact ⟨f0, f1, f2, f3, f4, f5, f6, f7, f8, f9, f10, (hk.cell (p := ⟨bv, ov, none⟩) hbl).trans d0, (hk.cell (p := ⟨bv, ov + 1, none⟩) hbl).trans d1, (hk.cell (p := ⟨bv, ov + 2, none⟩) hbl).trans d2⟩
            rw [← hX5]
            have hqq : ∀ w, _ := HQ.out g
            rw [← HSF.out, (Sup.same_iff s s).2 rfl] at hqq
            have BX := belT BW (belT b5 bx5)
            clear hX5 hbx b5 bx5 O5 d0 d1 d2
            go_region_held3 (fun Y => Y.cell? ⟨w5.heap.size, 0, none⟩ = some (.int .i64 s.gen) ∧ Y.cell? ⟨w5.heap.size, 1, none⟩ = some (.int .i64 s.a.l) ∧ Y.cell? ⟨w5.heap.size, 2, none⟩ = some (.int .i64 s.a.d) ∧ Y.cell? ⟨w5.heap.size, 3, none⟩ = some (.int .i64 s.a.c) ∧ Y.cell? ⟨w5.heap.size, 4, none⟩ = some (.int .i64 s.b.l) ∧ Y.cell? ⟨w5.heap.size, 5, none⟩ = some (.int .i64 s.b.d) ∧ Y.cell? ⟨w5.heap.size, 6, none⟩ = some (.int .i64 s.b.c) ∧ Y.cell? ⟨w5.heap.size, 7, none⟩ = some (.bool s.run) ∧ Y.cell? ⟨w5.heap.size, 8, none⟩ = some (.int .i64 s.win) ∧ Y.cell? ⟨w5.heap.size, 9, none⟩ = some (.int .i64 s.ep) ∧ Y.cell? ⟨w5.heap.size, 10, none⟩ = some (.int .i64 s.out) ∧ Y.cell? ⟨bv, ov, none⟩ = some (.bool true) ∧ Y.cell? ⟨bv, ov + 1, none⟩ = some (.bool true) ∧ Y.cell? ⟨bv, ov + 2, none⟩ = some (.bool true))
              ((refine HK.out _ ?_; iterate 8 try (first | assumption | apply belDr | apply belAlloc | exact belR _)))
              ((first
                | (go_at_call 37; refine Calls.mono (HO.out _) ?_; rintro e wx ⟨rfl, bx⟩; have bx1 := belT (show Below X5.heap.size X5 _ from (by iterate 8 try (first | exact belR _ | apply belDr))) bx)
                | (go_at_call 42; refine Calls.mono (wakes10_any _) ?_; rintro e wy ⟨rfl, by1⟩; have by2 := belT (show Below X5.heap.size X5 _ from (by iterate 8 try (first | assumption | exact belR _ | apply belDr))) by1)))
            go_wp2
            go_ret
            exact ⟨rfl, belT BX (by iterate 8 try (first | assumption | apply belDr | apply belAlloc | exact belR _))⟩
end Go.Proofs.Ytenjpldinnbcbaa
