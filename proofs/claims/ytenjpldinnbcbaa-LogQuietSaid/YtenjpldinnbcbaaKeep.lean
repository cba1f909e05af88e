/- The walks of package wattlekeep: cuts, copies, comparisons. -/
import Derived.Test.YtenjpldinnbcbaaProg
import Derived.Test.YtenjpldinnbcbaaNumL
namespace Go.Proofs.Ytenjpldinnbcbaa
open Go.RowKit
set_option linter.unusedVariables false
set_option linter.unusedSimpArgs false
set_option maxRecDepth 100000
set_option maxHeartbeats 1000000

/-- any number as one from 0 to n - 1 -/
def withinI (v n : Int) : Int := if n < 1 then 0 else v % n
theorem withinI_ge (v n : Int) : 0 ≤ withinI v n := by
  unfold withinI; split
  · omega
  · exact Int.emod_nonneg _ (by omega)
theorem withinI_lt (v n : Int) (h : 1 ≤ n) : withinI v n < n := by
  unfold withinI; rw [if_neg (by omega)]; exact Int.emod_lt_of_pos _ (by omega)
theorem within_any (v n : Int) (w : World) (hn : n ≤ 9223372036854775807) (hv : -9223372036854775808 ≤ v) (hv2 : v ≤ 9223372036854775807) :
    Calls Try.prog 22 #[.int .i64 v, .int .i64 n] w fun e w' => e = .returned (.int .i64 (withinI v n)) ∧ w = w' := by
  by_cases h : n < 1
  · have e : withinI v n = 0 := by unfold withinI; rw [if_pos h]
    have H := Lib.hid e
    clear e
    go_enter Try.func22, Try.ntmps22
    go_wp2
    go_ret
    exact ⟨ret_i64 H.out.symm, rfl⟩
  · have e : withinI v n = v % n := by unfold withinI; rw [if_neg h]
    have H := Lib.hid e
    have hm1 := Int.emod_nonneg v (show n ≠ 0 by omega)
    have hm2 := Int.emod_lt_of_pos v (show 0 < n by omega)
    by_cases hneg : v.tmod n < 0
    · have ht : Hid (v.tmod n + n = v % n) := by
        by_cases h0 : 0 ≤ v
        · rw [Int.tmod_eq_emod_of_nonneg h0] at hneg; omega
        · have h1 := tmod_cases v n
          rw [if_neg h0] at h1
          have h2 := Int.emod_lt_of_pos (-v) (show 0 < n by omega)
          have h3 := Int.emod_nonneg (-v) (show n ≠ 0 by omega)
          have h4 : v % n = n - (-v) % n := by
            have h5 : v = n - (-v) % n + n * (-((-v) / n) - 1) := by
              have := Int.emod_add_mul_ediv (-v) n
              rw [Int.mul_sub, Int.mul_neg]; omega
            have h6 : (-v) % n ≠ 0 := by omega
            conv => lhs; rw [h5]
            rw [Int.add_mul_emod_self_left, Int.emod_eq_of_lt (by omega) (by omega)]
          show v.tmod n + n = v % n
          omega
      have hlo : -n < v.tmod n := by
        rw [tmod_cases]; split
        · omega
        · have h2 := Int.emod_lt_of_pos (-v) (show 0 < n by omega); omega
      clear e
      have hn0 : 1 ≤ n := by omega
      clear h
      go_enter Try.func22, Try.ntmps22
      go_wp2
      go_ret
      exact ⟨ret_i64 (by rw [H.out, ← ht.out]), rfl⟩
    · have ht : Hid (v.tmod n = v % n) := by
        by_cases h0 : 0 ≤ v
        · exact Int.tmod_eq_emod_of_nonneg h0
        · have h1 := tmod_cases v n
          rw [if_neg h0] at h1
          have h3 := Int.emod_nonneg (-v) (show n ≠ 0 by omega)
          have h4 : (-v) % n = 0 := by omega
          have h5 : n ∣ v := Int.dvd_neg.1 (Int.dvd_of_emod_eq_zero h4)
          rw [Int.emod_eq_zero_of_dvd h5] 
          show v.tmod n = 0
          omega
      clear e
      have hn0 : 1 ≤ n := by omega
      clear h
      go_enter Try.func22, Try.ntmps22
      go_wp2
      go_ret
      exact ⟨ret_i64 (by rw [H.out, ← ht.out]), rfl⟩

theorem same_any (v v' : Value) (l m : List Nat) (w : World) (h : Byt w v l) (h' : Byt w v' m) :
    Calls Try.prog 28 #[v, v'] w fun e w' => e = .returned (.bool (decide (l = m))) ∧ Dr w w' := by
  obtain ⟨ao, cap, rfl, hc1, hc2, _, hl, hA⟩ := h
  obtain ⟨ao', cap', rfl, hc1', hc2', _, hl', hA'⟩ := h'
  unfold maxLen at hc2 hc2'
  by_cases hlen : l.length = m.length
  · have hb : ((l.length : Int) != (m.length : Int)) = false := by simp; omega
    go_enter Try.func28, Try.ntmps28
    go_wp2
    have HL := Lib.hid hlen
    go_loopw [5] (fun i wr => ∃ k : Nat, k ≤ l.length ∧ i = .int .i64 k ∧ Hid (∀ j, j < k → l[j]? = m[j]?) ∧ Dr w wr) (fun i _ => l.length - (intOf i).toNat)
    case atStart => exact ⟨0, Nat.zero_le _, rfl, Lib.hid (fun j hj => by omega), Dr.refl _⟩
    case round =>
      obtain ⟨k, hk, rfl, hall, ⟨q, rfl⟩⟩ := hrel
      clear hb
      by_cases hlt : k < l.length
      · have hlt' : k < m.length := by omega
        obtain ⟨b, off, x, rfl, hx, hkx, hx8⟩ := hA.byte hl hlt
        obtain ⟨b', off', y, rfl, hy, hky, hy8⟩ := hA'.byte hl' hlt'
        by_cases hxy : x = y
        · have hb : ((x : Int) != (y : Int)) = false := by simp; omega
          have HX := Lib.hid hxy
          clear hxy hlen
          go_wp2
          go_quiet (fail)
          go_wp2
          go_roundw
          case rel =>
            refine ⟨k + 1, by omega, by go_num, Lib.hid (fun j hj => ?_), ?_⟩
            · by_cases hjk : j = k
              · rw [hjk, hkx.out, hky.out, HX.out]
              · exact hall.out j (by omega)
            · exact ⟨_, rfl⟩
          case measure => simp [intOf]; omega
        · have hb : ((x : Int) != (y : Int)) = true := by simp; omega
          have HX := Lib.hid hxy
          clear hxy hlen
          go_wp2
          go_quiet (fail)
          go_wp2
          go_ret
          refine ⟨?_, by first | exact ⟨_, rfl⟩ | exact Dr.step ⟨_, rfl⟩ _⟩
          have : l ≠ m := fun e => HX.out (Option.some.inj (hkx.out.symm.trans ((congrArg (·[k]?) e).trans hky.out)))
          simp [this]
      · clear hlen
        go_wp2
        go_ret
        refine ⟨?_, by first | exact ⟨_, rfl⟩ | exact Dr.step ⟨_, rfl⟩ _⟩
        have : l = m := List.ext_getElem? fun j => by
          by_cases hj : j < k
          · exact hall.out j hj
          · rw [List.getElem?_eq_none (by omega), List.getElem?_eq_none (by have := HL.out; omega)]
        simp [this]
  · have hb : ((l.length : Int) != (m.length : Int)) = true := by simp; omega
    have HL := Lib.hid hlen
    clear hlen
    go_enter Try.func28, Try.ntmps28
    go_wp2
    go_ret
    refine ⟨?_, Dr.refl _⟩
    have : l ≠ m := fun e => HL.out (congrArg List.length e)
    simp [this]

theorem uint8_info : (Try.prog.info? 5).map (fun i => (i.zero, i.size, i.bytes)) = some (some (.int .u8 0), 1, 1) := by kernel_rfl
end Go.Proofs.Ytenjpldinnbcbaa
