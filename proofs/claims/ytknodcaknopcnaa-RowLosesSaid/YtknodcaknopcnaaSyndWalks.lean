/- The walks of package synd: Add, Scale, sum, P, Q. -/
import Derived.Test.YtknodcaknopcnaaSynd
import Derived.Test.YtknodcaknopcnaaRowOwn
import Derived.Test.YtknodcaknopcnaaGfRef
import Derived.Test.YtknodcaknopcnaaMore
import Derived.Test.YtknodcaknopcnaaKeep
namespace Go.Proofs.Ytknodcaknopcnaa
open Go.RowKit
set_option linter.unusedVariables false
set_option linter.unusedSimpArgs false
set_option maxRecDepth 100000
set_option maxHeartbeats 1000000

theorem map_at {α β : Type} {l : List α} {k : Nat} {x : α} (f : α → β) (h : l[k]? = some x) : (l.map f)[k]? = some (f x) := by rw [List.getElem?_map, h]; rfl
theorem zip_take {a b : List Nat} {k x y : Nat} (ha : a[k]? = some x) (hb : b[k]? = some y) : List.zipWith (· ^^^ ·) (a.take (k + 1)) (b.take (k + 1)) = List.zipWith (· ^^^ ·) (a.take k) (b.take k) ++ [x ^^^ y] := by
  obtain ⟨h1, _⟩ := List.getElem?_eq_some_iff.1 ha
  obtain ⟨h2, _⟩ := List.getElem?_eq_some_iff.1 hb
  rw [take_succ_get ha, take_succ_get hb, List.zipWith_append (by simp; omega)]
  rfl
theorem add_no (va vb : Value) (a b : List Nat) (w : World) (ha : Byt w va a) (hb : Byt w vb b) (hl : a.length ≠ b.length) :
    Calls Try.prog 38 #[va, vb] w fun e w' => e = .returned (.slice none 0 0) ∧ w = w' := by
  obtain ⟨ao, cap, rfl, h1, h2, h0, h3, hA⟩ := ha
  obtain ⟨bo, cap', rfl, g1, g2, g0, g3, gA⟩ := hb
  have hb : ((a.length : Int) != (b.length : Int)) = true := by rw [bne_iff_ne]; omega
  clear h0 g0
  go_enter Try.func38, Try.ntmps38
  go_wp2
  go_ret
  exact ⟨rfl, rfl⟩
theorem add_yes (va vb : Value) (a b : List Nat) (w : World) (ha : Byt w va a) (hb : Byt w vb b) (hl : b.length = a.length) (hn : a.length ≤ 1048576) :
    Calls Try.prog 38 #[va, vb] w fun e w' => ∃ v', e = .returned v' ∧ Own w' w.heap.size v' (List.zipWith (· ^^^ ·) a b) ∧ Below w.heap.size w w' := by
  obtain ⟨j0, hj, hy0, hy1, hy2⟩ := info_parts uint8_info
  obtain ⟨ao, cap, rfl, h1, h2, h0, h3, hA⟩ := ha
  obtain ⟨bo, cap', rfl, g1, g2, g0, g3, gA⟩ := hb
  have hb : ((a.length : Int) != (b.length : Int)) = false := by simp; omega
  rw [hl] at g1 ⊢
  have HL := Lib.hid hl
  unfold maxLen at h2 g2
  rw [hl] at hb
  clear h0 g0 hl hb
  go_enter Try.func38, Try.ntmps38
  go_wp2
  go_loopw [5, 15] (fun v i w' => ∃ k : Nat, k ≤ a.length ∧ i = .int .i64 k ∧ Hid (Own w' w.heap.size v (List.zipWith (· ^^^ ·) (a.take k) (b.take k))) ∧ Below w.heap.size w w') (fun _ i _ => a.length - (intOf i).toNat)
  case atStart => exact ⟨0, Nat.zero_le _, rfl, Lib.hid ⟨by simp, World.ownsRow_nil _ _ _ _⟩, belR _⟩
  case round =>
    obtain ⟨k, hk, rfl, hO, hB⟩ := hrel
    have hcap := hO
    by_cases hlt : k < a.length
    · obtain ⟨b1, o1, x, rfl, hx, hxk, hx8⟩ := (hA.below hB (Nat.le_refl _)).byte h3 hlt
      obtain ⟨b2, o2, y, rfl, hy, hyk, hy8⟩ := (gA.below hB (Nat.le_refl _)).byte g3 (k := k) (by rw [HL.out]; exact hlt)
      have hxc := bx8 hx8 hy8
      have hxy := G.xor8 hx8 hy8
      have hlz : (List.zipWith (· ^^^ ·) (a.take k) (b.take k)).length ≤ 1048576 := by simp; omega
      have HZ := Lib.hid hlz
      have hws := hB.size
      clear hlz
      go_wp2_with (at_builtin; go_loud (refine wpList_append_bytes rfl _ _ 22 rfl j0 Try.underlying22 hj hy0 hy1 hy2 w.heap.size _ _ rfl (hO.out.up (belA1 (belR _))) _ _ rfl (Byt.lit1 _ (x ^^^ y) _ (by simp) hxy) (by have := HZ.out; simp only [List.length_singleton]; omega) (by simp; omega) ?_); intro v' w1 hown hgrow)
      go_roundw
      case rel => exact ⟨k + 1, by omega, by go_num, Lib.hid (by rw [zip_take hxk.out hyk.out]; exact hown), belG (belA1 hB) hgrow (fun g hg => hO.out.ge g hg)⟩
      case measure => simp [intOf]; omega
    · have e1 : a.take k = a := List.take_of_length_le (by omega)
      have e2 : b.take k = b := List.take_of_length_le (by rw [HL.out]; omega)
      rw [e1, e2] at hO
      clear e1 e2
      go_wp2
      go_ret
      exact ⟨_, rfl, hO.out, hB⟩
theorem add_any (va vb : Value) (a b : List Nat) (w : World) (ha : Byt w va a) (hb : Byt w vb b) (hn : a.length ≤ 1048576) :
    Calls Try.prog 38 #[va, vb] w fun e w' => ∃ v', e = .returned v' ∧ Own w' w.heap.size v' (Y.addL a b) ∧ Below w.heap.size w w' := by
  by_cases hl : b.length = a.length
  · unfold Y.addL
    rw [if_pos hl.symm]
    exact add_yes va vb a b w ha hb hl hn
  · unfold Y.addL
    rw [if_neg (Ne.symm hl)]
    exact (add_no va vb a b w ha hb (Ne.symm hl)).mono fun e w' ⟨he, hw⟩ => ⟨_, he, Own.empty _ _, hw ▸ belR _⟩
theorem scale_any (va : Value) (a : List Nat) (f : Nat) (w : World) (ha : Byt w va a) (hf : f < 256) (hn : a.length ≤ 1048576) :
    Calls Try.prog 59 #[va, .int .u8 f] w fun e w' => ∃ v', e = .returned v' ∧ Own w' w.heap.size v' (Y.sclL a f) ∧ Below w.heap.size w w' := by
  obtain ⟨j0, hj, hy0, hy1, hy2⟩ := info_parts uint8_info
  obtain ⟨ao, cap, rfl, h1, h2, h0, h3, hA⟩ := ha
  unfold maxLen at h2
  clear h0
  go_enter Try.func59, Try.ntmps59
  go_wp2
  go_loopw [5, 10] (fun v i w' => ∃ k : Nat, k ≤ a.length ∧ i = .int .i64 k ∧ Hid (Own w' w.heap.size v (Y.sclL (a.take k) f)) ∧ Below w.heap.size w w') (fun _ i _ => a.length - (intOf i).toNat)
  case atStart => exact ⟨0, Nat.zero_le _, rfl, Lib.hid (Own.empty _ _), belR _⟩
  case round =>
    obtain ⟨k, hk, rfl, hO, hB⟩ := hrel
    by_cases hlt : k < a.length
    · obtain ⟨b1, o1, x, rfl, hx, hxk, hx8⟩ := (hA.below hB (Nat.le_refl _)).byte h3 hlt
      have hgl := G.gm_lt f hx8
      have HZ : Hid ((Y.sclL (a.take k) f).length ≤ 1048576) := Lib.hid (by rw [Y.sclL_len]; simp; omega)
      have hws := hB.size
      go_wp2_with (first
        | (go_at_call 69; go_loud (refine Calls.mono (mul_any x f _ hx8 hf) ?_); rintro e w5 ⟨rfl, rfl⟩)
        | (at_builtin; go_loud (refine wpList_append_bytes rfl _ _ 22 rfl j0 Try.underlying22 hj hy0 hy1 hy2 w.heap.size _ _ rfl (hO.out.up (belA1 (belR _))) _ _ rfl (Byt.lit1 _ (G.gm x f) _ (by simp) hgl) (by have := HZ.out; simp only [List.length_singleton]; omega) (by simp; omega) ?_); intro v' w1 hown hgrow))
      go_roundw
      case rel => exact ⟨k + 1, by omega, by go_num, Lib.hid (by rw [take_succ_get hxk.out]; unfold Y.sclL at *; rw [List.map_append]; exact hown), belG (belA1 hB) hgrow (fun g hg => hO.out.ge g hg)⟩
      case measure => simp [intOf]; omega
    · have e1 : a.take k = a := List.take_of_length_le (by omega)
      rw [e1] at hO
      clear e1
      go_wp2
      go_ret
      exact ⟨_, rfl, hO.out, hB⟩
theorem row_snoc_alike {ls : List (List Nat)} {k : Nat} {p : List Nat} {n : Nat} (hp : ls[k]? = some p) (h : ∀ l ∈ ls.take k, l.length = n) (hn : p.length = n) : ∀ l ∈ ls.take (k + 1), l.length = n := by
  intro l hl
  rw [take_succ_get hp] at hl
  rcases List.mem_append.1 hl with h1 | h1
  · exact h l h1
  · rw [List.mem_singleton.1 h1]; exact hn
/-- the part at a place: its value, and what it reads as -/
theorem ssum_any (F : Nat) (hE : ∀ (k : Nat) w, (callFunc F #[.int .i64 (k : Nat)]).run Try.prog w = .ok (.enter F #[.int .i64 (k : Nat)]) w) (c : Nat → Nat) (hc8 : ∀ k, c k < 256) (hF : ∀ (k : Nat) (w : World), k ≤ 1048576 → Calls Try.prog F #[.int .i64 (k : Nat)] w fun e w' => e = .returned (.int .u8 (c k : Nat)) ∧ w = w')
    (pv : Value) (ls : List (List Nat)) (w : World) (hp : Parts w pv ls) (hn : ls.length ≤ 1048576) (hl : ∀ l ∈ ls, l.length ≤ 1048576) :
    Calls Try.prog 60 #[pv, .func (.func F) #[] #[]] w fun e w' => ∃ v', e = .returned v' ∧ Own w' w.heap.size v' (Y.sumL c ls) ∧ Below w.heap.size w w' := by
  obtain ⟨j0, hj, hy0, hy1, hy2⟩ := info_parts uint8_info
  have hbytes := Lib.hid hp.bytes
  obtain ⟨ao, cap, rfl, hc1, hc2⟩ := hp.shape
  have HF := Lib.hid hF
  have HL := Lib.hid hl
  have HC := Lib.hid hc8
  clear hF hl hc8
  by_cases hz : ls.length = 0
  · have hb : ((ls.length : Int) == 0) = true := by rw [hz]; rfl
    have e : Y.sumL c ls = [] := by unfold Y.sumL; rw [if_neg]; intro h; have := ((Y.alike_iff ls).1 h).1; omega
    rw [e]
    clear e hz
    go_enter Try.func60, Try.ntmps60
    go_wp2
    go_ret
    exact ⟨_, rfl, Own.empty _ _, belR _⟩
  · have hb : ((ls.length : Int) == 0) = false := by rw [beq_eq_false_iff_ne]; omega
    obtain ⟨b, off, c0, p0, rfl, hc0, hk0, hB0⟩ := hp.get (k := 0) (by omega)
    have hc0' : w.cell? ⟨b, off, none⟩ = some c0 := by simpa using hc0
    obtain ⟨n, hn0⟩ : ∃ n, p0.length = n := ⟨_, rfl⟩
    have hhead : ls.headD [] = p0 := by
      have := hk0.out
      cases ls with
      | nil => cases this
      | cons a l => simpa using this
    have hnle : n ≤ 1048576 := by rw [← hn0]; exact HL.out p0 (List.mem_of_getElem? hk0.out)
    obtain ⟨ao0, cap0, rfl, _, _⟩ := hB0.shapeN hn0
    have HH : Hid ((ls.headD []).length = n) := by show _ = _; rw [hhead, hn0]
    have HA : ∀ v : List (List Nat) → Prop, True := fun _ => trivial
    clear hhead hn0 hk0 hB0 hc0 hz HA
    have hpos : 0 < ls.length := by have := of_decide_eq_false (show decide ((ls.length : Int) = 0) = false from by simpa using hb); omega
    go_enter Try.func60, Try.ntmps60
    go_wp2_with (at_make; go_loud (refine wpList_make_bytes rfl _ _ 22 rfl j0 Try.underlying22 hj hy0 hy1 hy2 _ _ _ _ n rfl rfl (by simp) (by simp) hnle ?_); intro w1 hO1 hb1)
    go_loopw [5, 18] (fun v i w' => ∃ k : Nat, k ≤ ls.length ∧ i = .int .i64 k ∧ Hid (Own w' w.heap.size v (Y.row c ls k n)) ∧ Below w.heap.size w w' ∧ Hid (∀ l ∈ ls.take k, l.length = n)) (fun _ i _ => ls.length - (intOf i).toNat)
    case atStart => exact ⟨0, Nat.zero_le _, rfl, Lib.hid (by rw [Y.row_zero]; exact hO1), hb1, Lib.hid (by simp)⟩
    case round =>
      obtain ⟨k, hk, rfl, hO, hB, hal⟩ := hrel
      obtain ⟨ao1, cap1, rfl, _, _⟩ := hO.out.byt.shapeN (Y.row_len _ _ _ _)
      by_cases hlt : k < ls.length
      · obtain ⟨b', off', c1, p1, e1, hc1', hk1, hB1⟩ := (hp.up hB).get hlt
        cases e1
        obtain ⟨m, hm⟩ : ∃ m, p1.length = m := ⟨_, rfl⟩
        obtain ⟨ao2, cap2, rfl, _, _⟩ := hB1.shapeN hm
        have HM := Lib.hid hm
        by_cases hmn : m = n
        · subst hmn
          clear hm
          have hmle : p1.length ≤ 1048576 := by rw [HM.out]; exact hnle
          have HMle := Lib.hid hmle
          clear hmle
          have HCk : c k < 256 := HC.out k
          have HB1 := Lib.hid hB1
          clear hB1
          go_wp2_with fail
          refine Calls.mono (HF.out k _ (by omega)) ?_
          rintro e w2 ⟨rfl, rfl⟩
          go_wp2_with fail
          refine Calls.mono (scale_any _ p1 (c k) _ HB1.out HCk HMle.out) ?_
          rintro e w2 ⟨v2, rfl, hO2, hb2⟩
          go_wp2_with fail
          refine Calls.mono (add_any _ _ _ _ w2 (hO.out.byt.up hb2) hO2.byt (by rw [Y.row_len]; exact hnle)) ?_
          rintro e w3 ⟨v3, rfl, hO3, hb3⟩
          have hlt2 := belT hb2 hb3
          have hws := hB.size
          have hws2 := hb2.size
          rw [Y.row_step c ls k m p1 hk1.out HM.out] at hO3
          go_wp2
          go_roundw
          case rel => exact ⟨k + 1, by omega, by go_num, Lib.hid (own_mono hO3 (by omega)), belT hB hlt2, Lib.hid (row_snoc_alike hk1.out hal.out HM.out)⟩
          case measure => simp [intOf]; omega
        · have hmb : ((m : Int) != (n : Int)) = true := by rw [bne_iff_ne]; omega
          have e : Y.sumL c ls = [] := by
            unfold Y.sumL
            rw [if_neg]
            intro h
            have := ((Y.alike_iff ls).1 h).2 p1 (List.mem_of_getElem? hk1.out)
            rw [HH.out, HM.out] at this
            exact hmn this
          have HE := Lib.hid e
          clear hmn e hm
          go_wp2
          go_ret
          exact ⟨_, rfl, by rw [HE.out]; exact Own.empty _ _, hB⟩
      · have e1 : ls.take k = ls := List.take_of_length_le (by omega)
        have e2 : k = ls.length := by omega
        have e : Y.sumL c ls = Y.row c ls k n := by
          unfold Y.sumL
          rw [if_pos, HH.out, e2]
          exact (Y.alike_iff ls).2 ⟨hpos, fun p hp => by rw [HH.out]; exact hal.out p (by rw [e1]; exact hp)⟩
        have HE := Lib.hid e
        clear e e1 e2
        go_wp2
        go_ret
        exact ⟨_, rfl, by rw [HE.out]; exact hO.out, hB⟩
theorem synP_any (pv : Value) (ls : List (List Nat)) (w : World) (hp : Parts w pv ls) (hn : ls.length ≤ 1048576) (hl : ∀ l ∈ ls, l.length ≤ 1048576) :
    Calls Try.prog 39 #[pv] w fun e w' => ∃ v', e = .returned v' ∧ Own w' w.heap.size v' (Y.P ls) ∧ Below w.heap.size w w' := by
  have HH := Lib.hid hl
  clear hl
  go_enter Try.func39, Try.ntmps39
  go_wp2_with fail
  refine Calls.mono (ssum_any 61 (fun k w => by simp [callFunc, go_sem, Try.func61, Try.f61]) (fun _ => 1) (fun _ => by decide) ?_ pv ls w hp hn HH.out) ?_
  · intro k w1 _
    go_enter Try.func61, Try.ntmps61
    go_wp2
    go_ret
    exact ⟨rfl, rfl⟩
  · rintro e w' ⟨v', rfl, ho, hb⟩
    go_wp2
    go_ret
    exact ⟨_, rfl, ho, hb⟩
theorem synQ_any (pv : Value) (ls : List (List Nat)) (w : World) (hp : Parts w pv ls) (hn : ls.length ≤ 255) (hl : ∀ l ∈ ls, l.length ≤ 1048576) :
    Calls Try.prog 51 #[pv] w fun e w' => ∃ v', e = .returned v' ∧ Own w' w.heap.size v' (Y.Q ls) ∧ Below w.heap.size w w' := by
  have HH := Lib.hid hl
  clear hl
  go_enter Try.func51, Try.ntmps51
  go_wp2_with fail
  refine Calls.mono (ssum_any 58 (fun k w => by simp [callFunc, go_sem, Try.func58, Try.f58]) (fun k => G.pw k) (fun k => G.pw_lt k) ?_ pv ls w hp (by omega) HH.out) ?_
  · intro k w1 _
    have := pow_any (k : Int) w1
    have e : G.pw (((k : Nat) : Int) % 255).toNat = G.pw k := by
      have : (((k : Nat) : Int) % 255).toNat = k % 255 := by omega
      rw [this, G.pw_mod]
    rw [e] at this
    exact this
  · rintro e w' ⟨v', rfl, ho, hb⟩
    go_wp2
    go_ret
    exact ⟨_, rfl, ho, hb⟩
end Go.Proofs.Ytknodcaknopcnaa
