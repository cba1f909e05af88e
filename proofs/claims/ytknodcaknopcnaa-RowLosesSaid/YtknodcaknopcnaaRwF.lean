/- The walks of row.sectors and row.Fill. -/
import Derived.Test.YtknodcaknopcnaaPlc
import Derived.Test.YtknodcaknopcnaaRowD
import Derived.Test.YtknodcaknopcnaaRowF
import Derived.Test.YtknodcaknopcnaaClone
import Derived.Test.YtknodcaknopcnaaSyndWalks
namespace Go.Proofs.Ytknodcaknopcnaa
open Go.RowKit
set_option linter.unusedVariables false
set_option linter.unusedSimpArgs false
set_option maxRecDepth 100000
set_option maxHeartbeats 2000000

theorem sectors_any (v : Value) (ls : List (List Nat)) (w : World) (h : Parts w v ls) :
    Calls Try.prog 47 #[v] w fun e w' => e = .returned (.bool (!(ls.any badB))) ∧ Below w.heap.size w w' := by
  go_enter Try.func47, Try.ntmps47
  go_wp2_with fail
  refine Calls.mono (cbad_any v ls _ h) ?_
  rintro e w1 ⟨rfl, D⟩
  go_wp2
  go_ret
  exact ⟨rfl, D.below _⟩
theorem all32 {ls : List (List Nat)} (h : ∀ p ∈ ls, p.length = 32) : ls.any badB = false := by
  rw [List.any_eq_false]
  intro p hp
  unfold badB
  rw [h p hp]
  decide
theorem OwnD.lts {w : World} {base g n cap : Nat} {ls : List (List Nat)} {X : Nat → Prop} (h : OwnD w base (.slice (some ⟨g, 0, none⟩) n cap) ls X) : g < w.heap.size := by
  obtain ⟨cs, h0, _⟩ := h
  exact (h0.lt g rfl).2
attribute [local irreducible] Go.Calls Byt Own Parts RowB OwnD
theorem fill_any (l d c r : Nat) (dv : Value) (data : List (List Nat)) (w : World) (h : Y.okN l d c) (hr : r < 16) (hp : Parts w dv data) (hlen : data.length = d - (l - 4)) (h32 : ∀ p ∈ data, p.length = 32) :
    Calls Try.prog 24 #[.agg #[.int .i64 l, .int .i64 d, .int .i64 c], .int .i64 r, dv] w fun e w' => ∃ v', e = .returned (.tuple #[v', .bool true]) ∧ OwnD w' w.heap.size v' (Y.fillL l d c r data) (fun _ => False) ∧ Below w.heap.size w w' := by
  obtain ⟨j0, hj, hy0, hy1, hy2⟩ := info_parts parts_info
  obtain ⟨hl64, hd64, hc64⟩ := okN_in h
  have HIN := rin_any l d c r (w.alloc (.cells #[.int .i64 l, .int .i64 d, .int .i64 c] 42)) hl64 hd64 hc64
  rw [inB_yes h hr] at HIN
  have HIN := Lib.hid HIN
  have hok := okN_geo h
  have HW : Hid ((Geo.mk l d c).width = ((d - (l - 4) : Nat) : Int)) := by
    show _ = _
    unfold Geo.width
    rw [if_pos hok]
    have := h.1
    dsimp only
    omega
  have HWA := Lib.hid (width_any l d c · hl64 hd64 hc64)
  have HDI := Lib.hid (fun k w hk => disk_any l d c r k w h hr hk)
  have HPA := Lib.hid (parity_any l d c r · h hr)
  have HP := Lib.hid hp
  have H32 := Lib.hid h32
  have HOK := Lib.hid h
  obtain ⟨ad, cd, rfl, hc1, hc2⟩ := hp.shape
  obtain ⟨m, hm⟩ : ∃ m, m = data.length := ⟨_, rfl⟩
  rw [← hm] at HP hc1 ⊢
  have HM := Lib.hid hm
  have HL : Hid (m = d - (l - 4)) := by show _ = _; rw [hm]; exact hlen
  rw [← HL.out] at HW
  have hmm : ((m : Int) != (m : Int)) = false := by simp
  have hd8 : Hid (1 ≤ d ∧ d ≤ 8 ∧ m ≤ 8 ∧ 1 ≤ m ∧ (l - 4) + m = d) := by
    obtain ⟨h1, h2, _⟩ := h
    have := HL.out
    refine ⟨?_, ?_, ?_, ?_, ?_⟩ <;> omega
  have hl56 : l = 5 ∨ l = 6 := by have := h.1; omega
  have HL56 := Lib.hid hl56
  have HK : Hid (∀ X, Below (w.alloc (.cells #[.int .i64 l, .int .i64 d, .int .i64 c] 42)).heap.size (w.alloc (.cells #[.int .i64 l, .int .i64 d, .int .i64 c] 42)) X → X.cell? ⟨w.heap.size, 0, none⟩ = some (.int .i64 l) ∧ X.cell? ⟨w.heap.size, 1, none⟩ = some (.int .i64 d) ∧ X.cell? ⟨w.heap.size, 2, none⟩ = some (.int .i64 c)) :=
    fun X hX => ⟨box_up hX 0 rfl, box_up hX 1 rfl, box_up hX 2 rfl⟩
  have hdd : (0 : Int) ≤ (d : Int) := by omega
  clear hl64 hd64 hc64 hok h hp hlen h32 hm hr hl56
  go_enter Try.func24, Try.ntmps24
  go_wp2_with fail
  refine Calls.mono HIN.out ?_
  rintro e w1 ⟨rfl, b1⟩
  obtain ⟨c0, c1, c2⟩ := HK.out _ b1
  go_wp2_with fail
  refine Calls.mono (HWA.out _) ?_
  rw [HW.out]
  rintro e w2 ⟨rfl, b2⟩
  have B2 := belT b1 b2
  clear c0 c1 c2
  obtain ⟨c0, c1, c2⟩ := HK.out _ B2
  go_wp2_with fail
  refine Calls.mono (sectors_any _ data _ (HP.out.up (belT (belA1 (belR _)) B2))) ?_
  rw [all32 H32.out]
  rintro e w3 ⟨rfl, b3⟩
  have B3 := belT B2 b3
  clear c0 c1 c2
  obtain ⟨c0, c1, c2⟩ := HK.out _ B3
  go_wp2_with (at_make; refine wpList_make_rows rfl _ _ 25 rfl j0 Try.underlying25 hj hy0 hy1 hy2 _ _ _ _ d rfl rfl rfl rfl (by have := hd8.out; omega) (fun _ => False) ?_; intro w4 O4 b4)
  have hgo : (w.alloc (.cells #[.int .i64 l, .int .i64 d, .int .i64 c] 42)).heap.size ≤ w3.heap.size := B3.size
  have hgo4 : w3.heap.size < w4.heap.size := O4.lts
  have B4 := belT B3 b4
  obtain ⟨b, hb⟩ : ∃ b, b = l - 4 := ⟨_, rfl⟩
  have HB := Lib.hid hb
  have H0 : Hid (OwnD w4 w3.heap.size (.slice (some ⟨w3.heap.size, 0, none⟩) d d) (Y.fillA b d c r data 0) (fun _ => False)) := O4
  clear b1 b2 b3 b4 B2 O4 hb c0 c1 c2
  go_loopw [34] (fun i X => ∃ k : Nat, k ≤ m ∧ i = .int .i64 k ∧ Hid (OwnD X w3.heap.size (.slice (some ⟨w3.heap.size, 0, none⟩) d d) (Y.fillA b d c r data k) (fun _ => False)) ∧ Below (w.alloc (.cells #[.int .i64 l, .int .i64 d, .int .i64 c] 42)).heap.size (w.alloc (.cells #[.int .i64 l, .int .i64 d, .int .i64 c] 42)) X ∧ w3.heap.size ≤ X.heap.size) (fun i _ => m - (intOf i).toNat)
  case atStart => exact ⟨0, Nat.zero_le _, rfl, H0, B4, Nat.le_of_lt hgo4⟩
  case round =>
    obtain ⟨k, hk, rfl, hO, BX, hsX⟩ := hrel
    by_cases hlt : k < m
    · obtain ⟨bb, ob, cc, p, rfl, hcc, hp, hy⟩ := (HP.out.up (belT (belA1 (belR _)) BX)).get (k := k) (by rw [← HM.out]; exact hlt)
      have hp32 : p.length = 32 := H32.out p (List.mem_of_getElem? hp.out)
      obtain ⟨ac, kc, rfl, _, _⟩ := hy.shapeN hp32
      have HY := Lib.hid hy
      have HP32 := Lib.hid hp32
      have HLT := Lib.hid hlt
      have hkm : (k : Int) < (m : Int) := by omega
      have hk0 : (0 : Int) ≤ (k : Int) := by omega
      have hk1' : IntKind.i64.wrap ((k : Int) + 1) = ((k + 1 : Nat) : Int) := by have := hd8.out; rw [IntKind.wrap_i64]; omega
      obtain ⟨c0, c1, c2⟩ := HK.out _ BX
      clear hy hp32 hlt
      go_wp2_with fail
      refine Calls.mono (HDI.out k _ (by rw [← HL.out]; exact HLT.out)) ?_
      rintro e w5 ⟨rfl, b5⟩
      rw [← HB.out]
      obtain ⟨o, ho⟩ : ∃ o, o = Y.off d c r (b + k) := ⟨_, rfl⟩
      rw [← ho]
      have hod : o < d := by rw [ho]; exact Y.off_lt (by have := hd8.out; have := HB.out; have := HLT.out; omega)
      have HO := Lib.hid ho
      have hod' : (o : Int) < (d : Int) := by omega
      have ho0 : (0 : Int) ≤ (o : Int) := by omega
      clear ho
      go_wp2_with fail
      refine Calls.mono (clone_any _ p _ (HY.out.up b5) (by rw [HP32.out]; decide)) ?_
      rintro e w6 ⟨v6, rfl, O6, b6⟩
      obtain ⟨a6, k6, rfl, _, _⟩ := O6.byt.shapeN HP32.out
      have b56 := belT b5 b6
      obtain ⟨cz, pz, hcz, hfz, _⟩ := (hO.out.up b56).at (k := o) (by rw [Y.fillA_len]; exact hod)
      have hput := Lib.hid (hO.out.put b56 (fun x hx => hx.elim) hsX (k := o) (by rw [Y.fillA_len]; exact hod) (own_mono O6 b5.size))
      have B6 : Below (w.alloc (.cells #[.int .i64 l, .int .i64 d, .int .i64 c] 42)).heap.size (w.alloc (.cells #[.int .i64 l, .int .i64 d, .int .i64 c] 42)) (w6.setCell ⟨w3.heap.size, o, none⟩ (.slice a6 32 k6)) := (belT BX b56).setCell (by show _ ≤ w3.heap.size; exact hgo) _
      have hs6 : w3.heap.size ≤ w6.heap.size := Nat.le_trans hsX b56.size
      clear O6 c0 c1 c2 hod b5 b6 b56
      go_wp2
      go_roundw
      case rel => exact ⟨k + 1, HLT.out, by go_num, Lib.hid (by show OwnD _ _ _ ((Y.fillA b d c r data k).set (Y.off d c r (b + k)) (data.getD k [])) _; rw [← HO.out, show data.getD k [] = p by rw [List.getD, hp.out]; rfl]; exact hput.out), B6, by simpa using hs6⟩
      case measure => have := HLT.out; simp [intOf]; omega
    · have e1 : k = data.length := by rw [← HM.out]; omega
      rw [e1] at hO
      have hkB : decide ((k : Int) < (m : Int)) = false := by rw [decide_eq_false_iff_not]; omega
      have hkP : ((k : Int) < (m : Int)) = False := by rw [eq_iff_iff]; exact ⟨fun h => by omega, fun h => h.elim⟩
      obtain ⟨c0, c1, c2⟩ := HK.out _ BX
      clear e1 hlt hk
      go_wp2_with fail
      refine Calls.mono (HPA.out _) ?_
      rintro e w5 ⟨rfl, b5⟩
      obtain ⟨o, ho⟩ : ∃ o, o = Y.off d c r 0 := ⟨_, rfl⟩
      rw [← ho]
      have hod : o < d := by rw [ho]; exact Y.off_lt (by have := hd8.out; omega)
      have HO := Lib.hid ho
      have hod' : (o : Int) < (d : Int) := by omega
      have ho0 : (0 : Int) ≤ (o : Int) := by omega
      clear ho c0 c1 c2
      have BP := belT (belA1 (belR w)) (belT BX b5)
      go_wp2_with fail
      refine Calls.mono (synP_any _ data _ (HP.out.up BP) (by rw [← HM.out]; have := hd8.out; omega) (fun p hp => by rw [H32.out p hp]; decide)) ?_
      rintro e w6 ⟨v6, rfl, O6, b6⟩
      obtain ⟨a6, k6, rfl, _, _⟩ := O6.byt.shape
      have b56 := belT b5 b6
      obtain ⟨cz, pz, hcz, hfz, _⟩ := (hO.out.up b56).at (k := o) (by rw [Y.fillA_len]; exact hod)
      have hput := Lib.hid (hO.out.put b56 (fun x hx => hx.elim) hsX (k := o) (by rw [Y.fillA_len]; exact hod) (own_mono O6 b5.size))
      obtain ⟨w7, hw7⟩ : ∃ w7, w7 = w6.setCell ⟨w3.heap.size, o, none⟩ (.slice a6 (Y.P data).length k6) := ⟨_, rfl⟩
      have B7 : Below (w.alloc (.cells #[.int .i64 l, .int .i64 d, .int .i64 c] 42)).heap.size (w.alloc (.cells #[.int .i64 l, .int .i64 d, .int .i64 c] 42)) w7 := by rw [hw7]; exact (belT BX b56).setCell (by show _ ≤ w3.heap.size; exact hgo) _
      have hs7 : w3.heap.size ≤ w7.heap.size := by rw [hw7]; have := Nat.le_trans hsX b56.size; simpa using this
      have hput : Hid (OwnD w7 w3.heap.size (.slice (some ⟨w3.heap.size, 0, none⟩) d d) (Y.fillP b d c r data) (fun _ => False)) := by rw [hw7]; show OwnD _ _ _ ((Y.fillA b d c r data data.length).set (Y.off d c r 0) (Y.P data)) _; rw [← HO.out]; exact hput.out
      have hww : w.heap.size ≤ w3.heap.size := by have := hgo; simp at this; omega
      clear O6 b5 b6 b56
      rcases HL56.out with h5 | h6
      · have hq : qd l d c r = -1 := by unfold qd; rw [if_pos h5]
        rw [hq]
        have HF : Hid (Y.fillL l d c r data = Y.fillP b d c r data) := by show _ = _; unfold Y.fillL; rw [if_neg (by omega), HB.out, h5]
        clear hq h5
        go_wp2_with fail
        rw [← hw7]
        go_wp2
        go_ret2
        exact ⟨_, rfl, by rw [HF.out]; exact hput.out.mono hww (fun _ _ h => h), belT (belA1 (belR _)) B7⟩
      · have hq : qd l d c r = ((Y.off d c r 1 : Nat) : Int) := by unfold qd; rw [if_neg (by omega)]
        rw [hq]
        have HF : Hid (Y.fillL l d c r data = (Y.fillP b d c r data).set (Y.off d c r 1) (Y.Q data)) := by show _ = _; unfold Y.fillL; rw [if_pos h6, HB.out, h6]
        obtain ⟨o1, ho1⟩ : ∃ o1, o1 = Y.off d c r 1 := ⟨_, rfl⟩
        rw [← ho1]
        have hod1 : o1 < d := by rw [ho1]; exact Y.off_lt (by have := hd8.out; omega)
        have HO1 := Lib.hid ho1
        have hod1' : (o1 : Int) < (d : Int) := by omega
        have ho10 : (0 : Int) ≤ (o1 : Int) := by omega
        clear hq h6 ho1
        go_wp2_with fail
        rw [← hw7]
        refine Calls.mono (synQ_any _ data _ (HP.out.up (belT (belA1 (belR w)) B7)) (by rw [← HM.out]; have := hd8.out; omega) (fun p hp => by rw [H32.out p hp]; decide)) ?_
        rintro e w8 ⟨v8, rfl, O8, b8⟩
        obtain ⟨a8, k8, rfl, _, _⟩ := O8.byt.shape
        obtain ⟨cy, py, hcy, hfy, _⟩ := (hput.out.up b8).at (k := o1) (by rw [Y.fillP_len]; exact hod1)
        have hput2 := Lib.hid (hput.out.put b8 (fun x hx => hx.elim) hs7 (k := o1) (by rw [Y.fillP_len]; exact hod1) O8)
        clear O8
        go_wp2
        go_ret2
        refine ⟨_, rfl, by rw [HF.out, ← HO1.out]; exact hput2.out.mono hww (fun _ _ h => h), belT (belA1 (belR _)) ((belT B7 b8).setCell (by show _ ≤ w3.heap.size; exact hgo) _)⟩
end Go.Proofs.Ytknodcaknopcnaa
