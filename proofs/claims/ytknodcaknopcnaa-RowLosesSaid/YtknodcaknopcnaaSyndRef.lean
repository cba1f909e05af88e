/- The walks of the reference's sums of rows: alike, P, Q. -/
import Derived.Test.YtknodcaknopcnaaSyndWalks
import Derived.RegionCalls
import Derived.Deep.RegionWith
namespace Go.Proofs.Ytknodcaknopcnaa
open Go.RowKit
set_option linter.unusedVariables false
set_option linter.unusedSimpArgs false
set_option maxRecDepth 100000
set_option maxHeartbeats 2000000

/-- the part at a place, its cell in a later world, what it reads as in the first -/
theorem ref_alike_any (pv : Value) (ls : List (List Nat)) (w : World) (hp : Parts w pv ls) :
    Calls Try.prog 41 #[pv] w fun e w' => e = .returned (.bool (Y.alikeB ls)) ∧ w = w' := by
  obtain ⟨ao, cap, rfl, hc1, hc2⟩ := hp.shape
  by_cases hz : ls.length = 0
  · have e : Y.alikeB ls = false := by rw [Bool.eq_false_iff]; intro h; have := ((Y.alike_iff ls).1 h).1; omega
    have HE := Lib.hid e
    have hb : decide ((0 : Int) < (ls.length : Int)) = false := by rw [hz]; rfl
    have hb2 : ¬ (0 : Int) < (ls.length : Int) := by omega
    clear e hz
    go_enter Try.func41, Try.ntmps41
    go_wp2
    go_loop [7] (fun i => i = .int .i64 0) (fun i => (intOf i).toNat)
    case atStart => rfl
    case round =>
      obtain rfl := hrel
      go_wp2
      go_ret
      refine ⟨ret_bool ?_, rfl⟩
      rw [HE.out]
  · obtain ⟨b, off, c0, p0, rfl, hc0, hk0, hB0⟩ := hp.get (k := 0) (by omega)
    have hc0' : w.cell? ⟨b, off, none⟩ = some c0 := by simpa using hc0
    obtain ⟨n, hn0⟩ : ∃ n, p0.length = n := ⟨_, rfl⟩
    have hhead : ls.headD [] = p0 := by
      have := hk0.out
      cases ls with
      | nil => cases this
      | cons a l => simpa using this
    obtain ⟨ao0, cap0, rfl, _, _⟩ := hB0.shapeN hn0
    have HH : Hid ((ls.headD []).length = n) := by show _ = _; rw [hhead, hn0]
    clear hhead hn0 hk0 hB0 hc0
    have hpos : 0 < ls.length := by omega
    clear hz
    go_enter Try.func41, Try.ntmps41
    go_wp2
    go_loop [7] (fun i => ∃ k : Nat, k ≤ ls.length ∧ i = .int .i64 k ∧ Hid (∀ l ∈ ls.take k, l.length = n)) (fun i => ls.length - (intOf i).toNat)
    case atStart => exact ⟨0, Nat.zero_le _, rfl, Lib.hid (by simp)⟩
    case round =>
      obtain ⟨k, hk, rfl, hal⟩ := hrel
      by_cases hlt : k < ls.length
      · obtain ⟨b', off', c1, p1, e1, hc1', hk1, hB1⟩ := hp.get hlt
        cases e1
        obtain ⟨m, hm⟩ : ∃ m, p1.length = m := ⟨_, rfl⟩
        obtain ⟨ao2, cap2, rfl, _, _⟩ := hB1.shapeN hm
        have HM := Lib.hid hm
        clear hm hB1
        by_cases hmn : m = n
        · subst hmn
          go_wp2
          go_round
          case rel => exact ⟨k + 1, by omega, by go_num, Lib.hid (row_snoc_alike hk1.out hal.out HM.out)⟩
          case measure => simp [intOf]; omega
        · have hmb : ((m : Int) != (n : Int)) = true := by rw [bne_iff_ne]; omega
          have e : Y.alikeB ls = false := by
            rw [Bool.eq_false_iff]
            intro h
            have := ((Y.alike_iff ls).1 h).2 p1 (List.mem_of_getElem? hk1.out)
            rw [HH.out, HM.out] at this
            exact hmn this
          have HE := Lib.hid e
          clear hmn e
          go_wp2
          go_ret
          exact ⟨ret_bool HE.out.symm, rfl⟩
      · have e1 : ls.take k = ls := List.take_of_length_le (by omega)
        have e : Y.alikeB ls = true := (Y.alike_iff ls).2 ⟨hpos, fun p hp => by rw [HH.out]; exact hal.out p (by rw [e1]; exact hp)⟩
        have HE := Lib.hid e
        have hb2 : (0 : Int) < (ls.length : Int) := by omega
        clear e e1
        go_wp2
        go_ret
        refine ⟨ret_bool ?_, rfl⟩
        rw [HE.out]
theorem refP_any (pv : Value) (ls : List (List Nat)) (w : World) (hp : Parts w pv ls) (hn : ls.length ≤ 1048576) (hl : ∀ l ∈ ls, l.length ≤ 1048576) :
    Calls Try.prog 20 #[pv] w fun e w' => ∃ v', e = .returned v' ∧ Own w' w.heap.size v' (Y.P ls) ∧ Below w.heap.size w w' := by
  obtain ⟨j0, hj, hy0, hy1, hy2⟩ := info_parts uint8_info
  have HL := Lib.hid hl
  clear hl
  have hal := ref_alike_any pv ls w hp
  by_cases ha : Y.alikeB ls = true
  · rw [ha] at hal
    have hai := (Y.alike_iff ls).1 ha
    have HAL := Lib.hid hal
    have hpos := hai.1
    obtain ⟨ao, cap, rfl, hc1, hc2⟩ := hp.shape
    obtain ⟨b, off, c0, p0, rfl, hc0, hk0, hB0⟩ := hp.get (k := 0) hpos
    have hc0' : w.cell? ⟨b, off, none⟩ = some c0 := by simpa using hc0
    obtain ⟨n, hn0⟩ : ∃ n, p0.length = n := ⟨_, rfl⟩
    have hhead : ls.headD [] = p0 := by
      have := hk0.out
      cases ls with
      | nil => cases this
      | cons a l => simpa using this
    have hnle : n ≤ 1048576 := by rw [← hn0]; exact HL.out p0 (List.mem_of_getElem? hk0.out)
    obtain ⟨ao0, cap0, rfl, _, _⟩ := hB0.shapeN hn0
    have HN : Hid (∀ p ∈ ls, p.length = n) := Lib.hid (by intro p hp; rw [hai.2 p hp, hhead, hn0])
    have HE : Hid (Y.P ls = Y.row (fun _ => 1) ls ls.length n) := by show _ = _; unfold Y.P Y.sumL; rw [if_pos ha, hhead, hn0]
    have hbytes := Lib.hid hp.bytes
    clear hhead hn0 hk0 hB0 hc0 ha hal hai
    go_enter Try.func20, Try.ntmps20
    go_wp2_with fail
    refine Calls.mono HAL.out ?_
    rintro e w1 ⟨rfl, rfl⟩
    go_wp2_with (at_make; go_loud (refine wpList_make_bytes rfl _ _ 22 rfl j0 Try.underlying22 hj hy0 hy1 hy2 _ _ _ _ n rfl rfl (by simp) (by simp) hnle ?_); intro w1 hO1 hb1)
    go_loopw [18] (fun i w' => ∃ k : Nat, k ≤ ls.length ∧ i = .int .i64 k ∧ Hid (Own w' w.heap.size (.slice (some ⟨w.heap.size, 0, none⟩) n n) (Y.row (fun _ => 1) ls k n)) ∧ Below w.heap.size w w') (fun i _ => ls.length - (intOf i).toNat)
    case atStart => exact ⟨0, Nat.zero_le _, rfl, Lib.hid (by rw [Y.row_zero]; exact hO1), hb1⟩
    case round =>
      obtain ⟨k, hk, rfl, hO, hB⟩ := hrel
      by_cases hlt : k < ls.length
      · obtain ⟨b', off', c1, p1, e1, hc1', hk1, hB1⟩ := hp.getUp hB hlt
        cases e1
        have hm := HN.out p1 (List.mem_of_getElem? hk1.out)
        obtain ⟨ao2, cap2, rfl, _, _⟩ := hB1.shapeN hm
        have HM := Lib.hid hm
        have HB1 := Lib.hid hB1
        clear hm hB1
        go_wp2
        go_loopw [24] (fun i w' => ∃ m : Nat, m ≤ n ∧ i = .int .i64 m ∧ Hid (Own w' w.heap.size (.slice (some ⟨w.heap.size, 0, none⟩) n n) (Y.mid (fun _ => 1) ls k n m)) ∧ Below w.heap.size w w') (fun i _ => n - (intOf i).toNat)
        case atStart => exact ⟨0, Nat.zero_le _, rfl, Lib.hid (by rw [Y.mid_zero]; exact hO.out), hB⟩
        case round =>
          obtain ⟨m, hmn, rfl, hOm, hBm⟩ := hrel
          by_cases hlm : m < n
          · obtain ⟨b3, o3, x, rfl, hx, hxk, hx8⟩ := (HB1.out.up hBm).get hlm
            obtain ⟨s, hs⟩ : ∃ s, s = Y.S (fun _ => 1) ls k m := ⟨_, rfl⟩
            obtain ⟨hs8, hsc, hsf⟩ := hOm.out.cells (Y.mid_get (fun _ => 1) ls k n m hlm)
            rw [← hs] at hs8 hsc
            have hxc := bx8 hs8 hx8
            have HS : Hid ((Y.mid (fun _ => 1) ls k n m).set m (s ^^^ x) = Y.mid (fun _ => 1) ls k n (m + 1)) := by
              show _ = _
              rw [← Y.mid_set (fun _ => 1) ls k n m p1 x hlm hk1.out hxk.out, hs]
              show _ = (Y.mid _ ls k n m).set m (_ ^^^ G.gm x 1)
              rw [G.gm_one_right hx8]
            have hsx := G.xor8 hs8 hx8
            have HST := Lib.hid (hOm.out.store m (s ^^^ x) hsx)
            clear hs
            go_wp2
            go_roundw
            case rel => exact ⟨m + 1, by omega, by go_num, Lib.hid (by rw [← HS.out]; exact HST.out.1), hBm.grown HST.out.2 hBm.size (fun g hg => by cases hg; exact Nat.le_refl _)⟩
            case measure => simp [intOf]; omega
          · have hmne : m = n := by omega
            rw [hmne, Y.mid_end] at hOm
            clear hmne
            go_wp2
            go_roundw
            case rel => exact ⟨k + 1, by omega, by go_num, hOm, hBm⟩
            case measure => simp [intOf]; omega
      · have e2 : k = ls.length := by omega
        have HE2 : Hid (Y.P ls = Y.row (fun _ => 1) ls k n) := by show _ = _; rw [HE.out, e2]
        clear e2
        go_wp2
        go_ret
        exact ⟨_, rfl, by rw [HE2.out]; exact hO.out, hB⟩
  · have ha : Y.alikeB ls = false := Bool.eq_false_iff.2 ha
    rw [ha] at hal
    have HAL := Lib.hid hal
    have HE : Hid (Y.P ls = []) := by show _ = _; unfold Y.P Y.sumL; rw [ha]; rfl
    clear ha hal
    go_enter Try.func20, Try.ntmps20
    go_wp2_with fail
    refine Calls.mono HAL.out ?_
    rintro e w1 ⟨rfl, rfl⟩
    go_wp2
    go_ret
    exact ⟨_, rfl, by rw [HE.out]; exact Own.empty _ _, belR _⟩
theorem refpow_nat (k : Nat) (w : World) : Calls Try.prog 30 #[.int .i64 (k : Nat)] w fun e w' => e = .returned (.int .u8 (G.pw k : Nat)) ∧ w = w' := by
  have := refpow_any (k : Int) w
  have e : G.pw (((k : Nat) : Int) % 255).toNat = G.pw k := by
    have : (((k : Nat) : Int) % 255).toNat = k % 255 := by omega
    rw [this, G.pw_mod]
  rwa [e] at this
theorem refQ_any (pv : Value) (ls : List (List Nat)) (w : World) (hp : Parts w pv ls) (hn : ls.length ≤ 255) (hl : ∀ l ∈ ls, l.length ≤ 1048576) :
    Calls Try.prog 21 #[pv] w fun e w' => ∃ v', e = .returned v' ∧ Own w' w.heap.size v' (Y.Q ls) ∧ Below w.heap.size w w' := by
  obtain ⟨j0, hj, hy0, hy1, hy2⟩ := info_parts uint8_info
  have HL := Lib.hid hl
  clear hl
  have hal := ref_alike_any pv ls w hp
  by_cases ha : Y.alikeB ls = true
  · rw [ha] at hal
    have hai := (Y.alike_iff ls).1 ha
    have HAL := Lib.hid hal
    have hpos := hai.1
    obtain ⟨ao, cap, rfl, hc1, hc2⟩ := hp.shape
    obtain ⟨b, off, c0, p0, rfl, hc0, hk0, hB0⟩ := hp.get (k := 0) hpos
    have hc0' : w.cell? ⟨b, off, none⟩ = some c0 := by simpa using hc0
    obtain ⟨n, hn0⟩ : ∃ n, p0.length = n := ⟨_, rfl⟩
    have hhead : ls.headD [] = p0 := by
      have := hk0.out
      cases ls with
      | nil => cases this
      | cons a l => simpa using this
    have hnle : n ≤ 1048576 := by rw [← hn0]; exact HL.out p0 (List.mem_of_getElem? hk0.out)
    obtain ⟨ao0, cap0, rfl, _, _⟩ := hB0.shapeN hn0
    have HN : Hid (∀ p ∈ ls, p.length = n) := Lib.hid (by intro p hp; rw [hai.2 p hp, hhead, hn0])
    have HE : Hid (Y.Q ls = Y.row G.pw ls ls.length n) := by show _ = _; unfold Y.Q Y.sumL; rw [if_pos ha, hhead, hn0]
    have hbytes := Lib.hid hp.bytes
    clear hhead hn0 hk0 hB0 hc0 ha hal hai
    go_enter Try.func21, Try.ntmps21
    go_wp2_with fail
    refine Calls.mono HAL.out ?_
    rintro e w1 ⟨rfl, rfl⟩
    go_wp2_with (at_make; go_loud (refine wpList_make_bytes rfl _ _ 22 rfl j0 Try.underlying22 hj hy0 hy1 hy2 _ _ _ _ n rfl rfl (by simp) (by simp) hnle ?_); intro w1 hO1 hb1)
    go_loopw [19] (fun i w' => ∃ k : Nat, k ≤ ls.length ∧ i = .int .i64 k ∧ Hid (Own w' w.heap.size (.slice (some ⟨w.heap.size, 0, none⟩) n n) (Y.row G.pw ls k n)) ∧ Below w.heap.size w w') (fun i _ => ls.length - (intOf i).toNat)
    case atStart => exact ⟨0, Nat.zero_le _, rfl, Lib.hid (by rw [Y.row_zero]; exact hO1), hb1⟩
    case round =>
      obtain ⟨k, hk, rfl, hO, hB⟩ := hrel
      by_cases hlt : k < ls.length
      · obtain ⟨b', off', c1, p1, e1, hc1', hk1, hB1⟩ := hp.getUp hB hlt
        cases e1
        have hm := HN.out p1 (List.mem_of_getElem? hk1.out)
        obtain ⟨ao2, cap2, rfl, _, _⟩ := hB1.shapeN hm
        have HM := Lib.hid hm
        have HB1 := Lib.hid hB1
        clear hm hB1
        go_wp2_with fail
        refine Calls.mono (refpow_nat k _) ?_
        rintro e w3 ⟨rfl, rfl⟩
        obtain ⟨f, hf⟩ : ∃ f, f = G.pw k := ⟨_, rfl⟩
        have hf8 : f < 256 := by rw [hf]; exact G.pw_lt k
        rw [← hf]
        have HFp := Lib.hid hf
        clear hf
        go_wp2
        go_loopw [28] (fun i w' => ∃ m : Nat, m ≤ n ∧ i = .int .i64 m ∧ Hid (Own w' w.heap.size (.slice (some ⟨w.heap.size, 0, none⟩) n n) (Y.mid G.pw ls k n m)) ∧ Below w.heap.size w w') (fun i _ => n - (intOf i).toNat)
        case atStart => exact ⟨0, Nat.zero_le _, rfl, Lib.hid (by rw [Y.mid_zero]; exact hO.out), hB⟩
        case round =>
          obtain ⟨m, hmn, rfl, hOm, hBm⟩ := hrel
          by_cases hlm : m < n
          · obtain ⟨b3, o3, x, rfl, hx, hxk, hx8⟩ := (HB1.out.up hBm).get hlm
            obtain ⟨s, hs⟩ : ∃ s, s = Y.S G.pw ls k m := ⟨_, rfl⟩
            obtain ⟨hs8, hsc, hsf⟩ := hOm.out.cells (Y.mid_get G.pw ls k n m hlm)
            rw [← hs] at hs8 hsc
            obtain ⟨y, hy⟩ : ∃ y, y = G.gm x f := ⟨_, rfl⟩
            have hy8 : y < 256 := by rw [hy]; exact G.gm_lt _ hx8
            have hxc := bx8 hs8 hy8
            have HS : Hid ((Y.mid G.pw ls k n m).set m (s ^^^ y) = Y.mid G.pw ls k n (m + 1)) := by
              show _ = _
              rw [← Y.mid_set G.pw ls k n m p1 x hlm hk1.out hxk.out, hs, hy, HFp.out]
            have hsx := G.xor8 hs8 hy8
            have hmul := fun w => refmul_any x f w hx8 hf8
            rw [← hy] at hmul
            have HMUL := Lib.hid hmul
            clear hs hy hmul
            go_wp2_with fail
            go_region_with ((go_at_call 31; refine Calls.mono (HMUL.out _) ?_; rintro e w5 ⟨rfl, rfl⟩))
            all_goals
              go_wp2
              go_roundw
              case rel => exact ⟨m + 1, by omega, by go_num, Lib.hid (by rw [← HS.out]; exact ((hOm.out.store m (s ^^^ y) hsx).1).up (belDN (belR _) 1)), belDN (hBm.grown (hOm.out.store m (s ^^^ y) hsx).2 hBm.size (fun g hg => by cases hg; exact Nat.le_refl _)) 1⟩
              case measure => simp [intOf]; omega
          · have hmne : m = n := by omega
            rw [hmne, Y.mid_end] at hOm
            clear hmne
            go_wp2
            go_roundw
            case rel => exact ⟨k + 1, by omega, by go_num, hOm, hBm⟩
            case measure => simp [intOf]; omega
      · have e2 : k = ls.length := by omega
        have HE2 : Hid (Y.Q ls = Y.row G.pw ls k n) := by show _ = _; rw [HE.out, e2]
        clear e2
        go_wp2
        go_ret
        exact ⟨_, rfl, by rw [HE2.out]; exact hO.out, hB⟩
  · have ha : Y.alikeB ls = false := Bool.eq_false_iff.2 ha
    rw [ha] at hal
    have HAL := Lib.hid hal
    have HE : Hid (Y.Q ls = []) := by show _ = _; unfold Y.Q Y.sumL; rw [ha]; rfl
    clear ha hal
    go_enter Try.func21, Try.ntmps21
    go_wp2_with fail
    refine Calls.mono HAL.out ?_
    rintro e w1 ⟨rfl, rfl⟩
    go_wp2
    go_ret
    exact ⟨_, rfl, by rw [HE.out]; exact Own.empty _ _, belR _⟩
end Go.Proofs.Ytknodcaknopcnaa
