/- The walks of erase.filled, byQ, two. -/
import Derived.Test.YtknodcaknopcnaaEraM
import Derived.Test.YtknodcaknopcnaaSyndWalks
namespace Go.Proofs.Ytknodcaknopcnaa
open Go.RowKit
set_option linter.unusedVariables false
set_option linter.unusedSimpArgs false
set_option maxRecDepth 100000
set_option maxHeartbeats 1000000

theorem uint8_size : (Try.prog.info? 5).map (·.size) = some 1 := by
  obtain ⟨i, h, _, h2, _⟩ := info_parts uint8_info
  rw [h]; simp [h2]
theorem filled_any (n : Nat) (v : Value) (ls : List (List Nat)) (w : World) (h : Parts w v ls) (hl : ls.length ≤ 1000) (hn : n ≤ 100000) (hfit : ∀ p ∈ ls, p.length ≤ n) :
    Calls Try.prog 36 #[.int .i64 (n : Int), v] w fun e w' => ∃ v', e = .returned v' ∧ OwnD w' w.heap.size v' (ls.map (Y.fz n)) (fun _ => False) ∧ Below w.heap.size w w' := by
  obtain ⟨j0, hj, hy0, hy1, hy2⟩ := info_parts uint8_info
  obtain ⟨i0, hi, hz0, hz1, hz2⟩ := info_parts parts_info
  have h' := Lib.hid h
  have HS := Lib.hid uint8_size
  obtain ⟨ao, cap, rfl, hc1, hc2⟩ := h.shape
  obtain ⟨m, hm⟩ : ∃ m, m = ls.length := ⟨_, rfl⟩
  have HM := Lib.hid hm
  have HL := Lib.hid hl
  have HN := Lib.hid hn
  have HF := Lib.hid hfit
  rw [← hm] at h' hc1 ⊢
  have hn0 : (0 : Int) ≤ (n : Int) := by omega
  clear h hm hl hn hfit
  go_enter Try.func36, Try.ntmps36
  go_wp2
  go_loopw [5, 11] (fun v i w' => ∃ k : Nat, k ≤ m ∧ i = .int .i64 k ∧ Hid (OwnD w' w.heap.size v ((ls.take k).map (Y.fz n)) (fun _ => False)) ∧ Below w.heap.size w w') (fun _ i _ => m - (intOf i).toNat)
  case atStart => exact ⟨0, Nat.zero_le _, rfl, Lib.hid (OwnD.nil _ _ _), belR _⟩
  case round =>
    obtain ⟨k, hk, rfl, hO, hB⟩ := hrel
    by_cases hlt : k < m
    · obtain ⟨b, off, c, p, rfl, hcc, hp, hy⟩ := (h'.out.up hB).get (k := k) (by rw [← HM.out]; exact hlt)
      obtain ⟨ac, cc, rfl, _, _⟩ := hy.shape
      have HY := Lib.hid hy
      have hpn : Hid (p.length ≤ n) := Lib.hid (HF.out p (List.mem_of_getElem? hp.out))
      clear hy
      go_wp2_with (first
        | (at_make; refine wpList_make_bytes rfl _ _ 22 rfl j0 Try.underlying22 hj hy0 hy1 hy2 _ _ _ _ n rfl rfl rfl rfl (by have := HN.out; omega) ?_; intro w1 O1 b1)
        | (refine wpList_copy_bytes rfl _ _ 22 22 rfl Try.underlying22 HS.out _ _ rfl rfl wr.heap.size (List.replicate n 0) p O1 (HY.out.up b1) ?_; intro w2 O2 g2
           rw [over_zeros hpn.out] at O2
           have b2 : Below wr.heap.size wr w2 := belG (v := .slice (some ⟨wr.heap.size, 0, none⟩) n n) b1 g2 (fun g hg => by cases hg; exact Nat.le_refl _))
        | (at_builtin; go_loud (refine wpList_append_rowD rfl (.tmp 20) (.tmp 22) 25 rfl i0 Try.underlying25 hi hz0 hz1 hz2 w.heap.size _ _ _ rfl wr (belA1 b2) hO.out (fun g hg => hg.elim) _ _ (p ++ List.replicate (n - p.length) 0) rfl (At.one _ _ _ (by first | rfl | simp)) (O2.up (belA1 (belR _))) (by rw [List.length_map, List.length_take]; have := HL.out; omega) hB.size ?_); intro v3 w3 O3 g3))
      go_roundw
      case rel => exact ⟨k + 1, by omega, by go_num, Lib.hid (by rw [take_succ_get hp.out, List.map_append]; exact O3), belG (belA1 (belT hB b2)) g3 (fun g hg => hO.out.ge g hg)⟩
      case measure => simp [intOf]; omega
    · have e1 : ls.take k = ls := List.take_of_length_le (by rw [← HM.out]; omega)
      rw [e1] at hO
      clear e1
      go_wp2
      go_ret
      exact ⟨_, rfl, hO.out, hB⟩
theorem addL_le (a b : List Nat) : (Y.addL a b).length ≤ a.length := by
  unfold Y.addL
  split
  · simp; omega
  · simp
theorem sumL_le (c : Nat → Nat) (ls : List (List Nat)) {n : Nat} (h : ∀ r ∈ ls, r.length ≤ n) : (Y.sumL c ls).length ≤ n := by
  unfold Y.sumL
  split
  · rw [Y.row_len]
    cases ls with
    | nil => simp
    | cons a t => exact h a (by simp)
  · simp
theorem gfpow_nat (k : Nat) (w : World) : Calls Try.prog 58 #[.int .i64 (k : Int)] w fun e w' => e = .returned (.int .u8 (G.pw k : Nat)) ∧ w = w' := by
  refine (pow_any (k : Int) w).mono fun e w' ⟨he, hw⟩ => ⟨?_, hw⟩
  rw [he]
  have : ((k : Int) % 255).toNat = k % 255 := by omega
  rw [this, G.pw_mod]
theorem two_any (pv qv lv : Value) (p q : List Nat) (l : List (List Nat)) (j k : Nat) (w : World) (hp : Byt w pv p) (hq : Byt w qv q) (hl : Parts w lv l) (hpn : p.length ≤ 100000) (hqn : q.length ≤ 100000) (hln : l.length ≤ 255) (hlm : ∀ r ∈ l, r.length ≤ 100000) :
    Calls Try.prog 37 #[pv, qv, lv, .int .i64 (j : Int), .int .i64 (k : Int)] w fun e w' => ∃ x y, e = .returned (.tuple #[x, y]) ∧ Own w' w.heap.size x (Y.twoX p q l j k) ∧ Own w' w.heap.size y (Y.twoY p q l j k) ∧ Below w.heap.size w w' := by
  have hlm' : ∀ r ∈ l, r.length ≤ 1048576 := fun r hr => Nat.le_trans (hlm r hr) (by decide)
  have a1 := addL_le p (Y.P l)
  have a2 := addL_le q (Y.Q l)
  have a3 := addL_le (Y.addL q (Y.Q l)) (Y.sclL (Y.addL p (Y.P l)) (G.pw k))
  have HPW := Lib.hid (fun n => G.pw_lt n)
  have hxx := bx8 (G.pw_lt j) (G.pw_lt k)
  have HX8 := Lib.hid (G.xor8 (G.pw_lt j) (G.pw_lt k))
  go_enter Try.func37, Try.ntmps37
  go_wp2_with fail
  refine Calls.mono (synP_any lv l _ hl (by omega) hlm') ?_
  rintro e w1 ⟨v1, rfl, O1, b1⟩
  go_wp2_with fail
  refine Calls.mono (add_any pv v1 p _ _ (hp.up b1) O1.byt (by omega)) ?_
  rintro e w2 ⟨v2, rfl, O2, b2⟩
  have B2 := belT b1 b2
  go_wp2_with fail
  refine Calls.mono (synQ_any lv l _ (hl.up B2) hln hlm') ?_
  rintro e w3 ⟨v3, rfl, O3, b3⟩
  have B3 := belT B2 b3
  go_wp2_with fail
  refine Calls.mono (add_any qv v3 q _ _ (hq.up B3) O3.byt (by omega)) ?_
  rintro e w4 ⟨v4, rfl, O4, b4⟩
  have B4 := belT B3 b4
  go_wp2_with fail
  refine Calls.mono (gfpow_nat j _) ?_
  rintro e w5 ⟨rfl, rfl⟩
  go_wp2_with fail
  refine Calls.mono (gfpow_nat k _) ?_
  rintro e w5 ⟨rfl, rfl⟩
  go_wp2_with fail
  refine Calls.mono (inv_any _ _ HX8.out) ?_
  rintro e w5 ⟨rfl, rfl⟩
  go_wp2_with fail
  refine Calls.mono (gfpow_nat k _) ?_
  rintro e w5 ⟨rfl, rfl⟩
  go_wp2_with fail
  refine Calls.mono (scale_any v2 _ _ _ (O2.byt.up (belT b3 b4)) (HPW.out k) (by omega)) ?_
  rintro e w5 ⟨v5, rfl, O5, b5⟩
  have B5 := belT B4 b5
  go_wp2_with fail
  refine Calls.mono (add_any v4 v5 _ _ _ (O4.byt.up b5) O5.byt (by omega)) ?_
  rintro e w6 ⟨v6, rfl, O6, b6⟩
  have B6 := belT B5 b6
  go_wp2_with fail
  refine Calls.mono (scale_any v6 _ _ _ O6.byt (G.inv_lt _) (by omega)) ?_
  rintro e w7 ⟨v7, rfl, O7, b7⟩
  have B7 := belT B6 b7
  go_wp2_with fail
  refine Calls.mono (add_any v2 v7 _ _ _ (O2.byt.up (belT b3 (belT b4 (belT b5 (belT b6 b7))))) O7.byt (by omega)) ?_
  rintro e w8 ⟨v8, rfl, O8, b8⟩
  have B8 := belT B7 b8
  go_wp2
  go_ret2
  exact ⟨_, _, rfl, own_mono (O7.up b8) B6.size, own_mono O8 B7.size, B8⟩
theorem byQ_any (qv lv : Value) (q : List Nat) (l : List (List Nat)) (k : Nat) (w : World) (hq : Byt w qv q) (hl : Parts w lv l) (hqn : q.length ≤ 100000) (hln : l.length ≤ 255) (hlm : ∀ r ∈ l, r.length ≤ 100000) :
    Calls Try.prog 40 #[qv, lv, .int .i64 (k : Int)] w fun e w' => ∃ x, e = .returned x ∧ Own w' w.heap.size x (Y.byQL q l k) ∧ Below w.heap.size w w' := by
  have hlm' : ∀ r ∈ l, r.length ≤ 1048576 := fun r hr => Nat.le_trans (hlm r hr) (by decide)
  have a2 := addL_le q (Y.Q l)
  have HPW := Lib.hid (fun n => G.pw_lt n)
  go_enter Try.func40, Try.ntmps40
  go_wp2_with fail
  refine Calls.mono (synQ_any lv l _ hl hln hlm') ?_
  rintro e w3 ⟨v3, rfl, O3, b3⟩
  go_wp2_with fail
  refine Calls.mono (add_any qv v3 q _ _ (hq.up b3) O3.byt (by omega)) ?_
  rintro e w4 ⟨v4, rfl, O4, b4⟩
  have B4 := belT b3 b4
  go_wp2_with fail
  refine Calls.mono (gfpow_nat k _) ?_
  rintro e w5 ⟨rfl, rfl⟩
  go_wp2_with fail
  refine Calls.mono (inv_any _ _ (HPW.out k)) ?_
  rintro e w5 ⟨rfl, rfl⟩
  go_wp2_with fail
  refine Calls.mono (scale_any v4 _ _ _ O4.byt (G.inv_lt _) (by omega)) ?_
  rintro e w5 ⟨v5, rfl, O5, b5⟩
  go_wp2
  go_ret
  exact ⟨_, rfl, own_mono O5 B4.size, belT B4 b5⟩
end Go.Proofs.Ytknodcaknopcnaa
