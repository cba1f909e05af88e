/- The walks of slices.IndexFunc, ContainsFunc (rows, by their length), EqualFunc. -/
import Derived.Test.YtenjpldinnbcbaaBEq
import Derived.Test.YtenjpldinnbcbaaMoreF
import Derived.Test.YtenjpldinnbcbaaNumL
namespace Go.Proofs.Ytenjpldinnbcbaa
open Go.RowKit
set_option linter.unusedVariables false
set_option linter.unusedSimpArgs false
set_option maxRecDepth 100000
set_option maxHeartbeats 1000000

def badB (b : List Nat) : Bool := decide (b.length ≠ 32)
def unfitB' (s : Int) (b : List Nat) : Bool := decide (0 < b.length ∧ (b.length : Int) ≠ s)
theorem bad_any (v : Value) (b : List Nat) (w : World) (h : Byt w v b) :
    Calls Try.prog 94 #[v] w fun e w' => e = .returned (.bool (badB b)) ∧ w = w' := by
  obtain ⟨ao, cap, rfl, h1, h2⟩ := h.shape
  have hF : Hid (((b.length : Int) != 32) = badB b) := by
    show _ = _
    unfold badB
    rw [Bool.eq_iff_iff, bne_iff_ne, decide_eq_true_iff]
    omega
  obtain ⟨n, hn⟩ : ∃ n, n = b.length := ⟨_, rfl⟩
  rw [← hn] at hF ⊢
  clear h h1 hn
  go_enter Try.func94, Try.ntmps94
  go_wp2
  go_ret
  exact ⟨ret_bool hF.out, rfl⟩
theorem call_bad (args : Array Value) (w : World) : (callFunc 94 args).run Try.prog w = .ok (.enter 94 args) w := by
  simp [callFunc, go_sem, Try.func94, Try.f94]
theorem ibad_any (v : Value) (ls : List (List Nat)) (w : World) (h : Parts w v ls) :
    Calls Try.prog 113 #[v, .func (.func 94) #[] #[]] w fun e w' => ∃ r : Int, e = .returned (.int .i64 r) ∧ -1 ≤ r ∧ r ≤ 9223372036854775807 ∧ Hid (0 ≤ r ↔ ls.any badB = true) ∧ Dr w w' := by
  have h' := Lib.hid h
  obtain ⟨ao, cap, rfl, hc1, hc2⟩ := h.shape
  obtain ⟨n, hn⟩ : ∃ n, n = ls.length := ⟨_, rfl⟩
  have HN := Lib.hid hn
  rw [← hn] at h' hc1 ⊢
  have hE := call_bad
  clear h hn
  go_enter Try.func113, Try.ntmps113
  go_wp2
  go_loopw [8] (fun i w' => ∃ k : Nat, k ≤ n ∧ i = .int .i64 k ∧ Hid ((ls.take k).any badB = false) ∧ Dr w w') (fun i _ => n - (intOf i).toNat)
  case atStart => exact ⟨0, Nat.zero_le _, rfl, Lib.hid rfl, Dr.refl _⟩
  case round =>
    obtain ⟨k, hk, rfl, hall, D⟩ := hrel
    by_cases hlt : k < n
    · obtain ⟨b, off, c, p, rfl, hcc, hp, hy⟩ := (h'.out.up (D.below _)).get (k := k) (by rw [← HN.out]; exact hlt)
      obtain ⟨ac, cc, rfl, _, _⟩ := hy.shape
      obtain ⟨pb, hpb⟩ : ∃ pb, badB p = pb := ⟨_, rfl⟩
      have HP := Lib.hid hpb
      clear hpb
      have hcall := bad_any _ p wr hy
      go_wp2_with fail
      refine Calls.mono hcall ?_
      rw [HP.out]
      rintro e w2 ⟨rfl, rfl⟩
      cases pb
      · go_wp2
        go_roundw
        case rel =>
          refine ⟨k + 1, by omega, by go_num, Lib.hid ?_, D⟩
          rw [take_succ_get hp.out, List.any_append, hall.out]
          simp [HP.out]
        case measure => simp [intOf]; omega
      · go_wp2
        go_ret
        refine ⟨k, rfl, by omega, by omega, Lib.hid ⟨fun _ => ?_, fun _ => by omega⟩, D⟩
        exact List.any_eq_true.2 ⟨p, List.mem_of_getElem? hp.out, HP.out⟩
    · go_wp2
      go_ret
      refine ⟨-1, rfl, by omega, by omega, Lib.hid ⟨fun h => by omega, fun h => ?_⟩, D⟩
      rw [show ls.take k = ls by rw [List.take_of_length_le (by rw [← HN.out]; omega)]] at hall
      rw [hall.out] at h
      cases h
theorem cbad_any (v : Value) (ls : List (List Nat)) (w : World) (h : Parts w v ls) :
    Calls Try.prog 93 #[v, .func (.func 94) #[] #[]] w fun e w' => e = .returned (.bool (ls.any badB)) ∧ Dr w w' := by
  go_enter Try.func93, Try.ntmps93
  go_wp2_with fail
  refine Calls.mono (ibad_any v ls _ h) ?_
  rintro e w1 ⟨r, rfl, r1, r2, HR, D⟩
  go_wp2
  go_ret
  refine ⟨ret_bool ?_, D⟩
  rw [Bool.eq_iff_iff, ← HR.out, decide_eq_true_iff]
theorem eqf_any (v u : Value) (ls ms : List (List Nat)) (w : World) (h : Parts w v ls) (h' : Parts w u ms) :
    Calls Try.prog 115 #[v, u, .func (.func 97) #[] #[]] w fun e w' => e = .returned (.bool (decide (ls = ms))) ∧ Dr w w' := by
  have HA := Lib.hid h
  have HB := Lib.hid h'
  obtain ⟨ao, cap, rfl, hc1, hc2⟩ := h.shape
  obtain ⟨ao', cap', rfl, hc1', hc2'⟩ := h'.shape
  obtain ⟨n, hn⟩ : ∃ n, n = ls.length := ⟨_, rfl⟩
  obtain ⟨n', hn'⟩ : ∃ n, n = ms.length := ⟨_, rfl⟩
  have HN := Lib.hid hn
  have HN' := Lib.hid hn'
  rw [← hn] at HA hc1 ⊢
  rw [← hn'] at HB hc1' ⊢
  clear h h' hn hn'
  have hE : ∀ (args : Array Value) w, (callFunc 97 args).run Try.prog w = .ok (.enter 97 args) w := fun args w => by simp [callFunc, go_sem, Try.func97, Try.f97]
  by_cases c : n = n'
  · subst c
    go_enter Try.func115, Try.ntmps115
    go_wp2
    go_loopw [17] (fun i w' => ∃ k : Nat, k ≤ n ∧ i = .int .i64 k ∧ Hid (ls.take k = ms.take k) ∧ Dr w w') (fun i _ => n - (intOf i).toNat)
    case atStart => exact ⟨0, Nat.zero_le _, rfl, Lib.hid rfl, Dr.refl _⟩
    case round =>
      obtain ⟨k, hk, rfl, hall, D⟩ := hrel
      by_cases hlt : k < n
      · obtain ⟨b, off, c, p, rfl, hcc, hp, hy⟩ := (HA.out.up (D.below _)).get (k := k) (by rw [← HN.out]; exact hlt)
        obtain ⟨b', off', c', q, rfl, hcc', hq, hz⟩ := (HB.out.up (D.below _)).get (k := k) (by rw [← HN'.out]; exact hlt)
        obtain ⟨ac, cc, rfl, _, _⟩ := hy.shape
        obtain ⟨ad, cd, rfl, _, _⟩ := hz.shape
        obtain ⟨pb, hpb⟩ : ∃ pb, decide (p = q) = pb := ⟨_, rfl⟩
        have HP := Lib.hid hpb
        clear hpb
        have hcall := bequal_any _ _ p q wr hy hz
        go_wp2_with fail
        refine Calls.mono hcall ?_
        rw [HP.out]
        rintro e w2 ⟨rfl, rfl⟩
        cases pb
        · go_wp2
          go_ret
          refine ⟨ret_bool (Eq.symm ?_), D⟩
          rw [decide_eq_false_iff_not]
          intro e
          have h9 := hp.out
          rw [e, hq.out] at h9
          exact (of_decide_eq_false HP.out) (Option.some.inj h9).symm
        · go_wp2
          go_roundw
          case rel =>
            refine ⟨k + 1, by omega, by go_num, Lib.hid ?_, D⟩
            rw [take_succ_get hp.out, take_succ_get hq.out, hall.out, of_decide_eq_true HP.out]
          case measure => simp [intOf]; omega
      · go_wp2
        go_ret
        refine ⟨ret_bool (Eq.symm ?_), D⟩
        rw [decide_eq_true_iff]
        have h9 := hall.out
        rwa [List.take_of_length_le (by rw [← HN.out]; omega), List.take_of_length_le (by rw [← HN'.out]; omega)] at h9
  · have h1 : decide (ls = ms) = false := by rw [decide_eq_false_iff_not]; intro e; exact c (by rw [HN.out, HN'.out, e])
    rw [h1]
    have h2 : ((n : Int) != (n' : Int)) = true := by rw [bne_iff_ne]; omega
    clear h1 c
    go_enter Try.func115, Try.ntmps115
    go_wp2
    go_ret
    exact ⟨rfl, Dr.refl _⟩
end Go.Proofs.Ytenjpldinnbcbaa
