/- The walks of slices.IndexFunc, ContainsFunc (sectors' lengths), EqualFunc, record.same. -/
import Derived.Test.YtenjpldinnbcbaaBEq
import Derived.Test.YtenjpldinnbcbaaRowF
import Derived.Test.YtenjpldinnbcbaaMoreF
import Derived.Test.YtenjpldinnbcbaaNumL
namespace Go.Proofs.Ytenjpldinnbcbaa
open Go.RowKit
set_option linter.unusedVariables false
set_option linter.unusedSimpArgs false
set_option maxRecDepth 100000
set_option maxHeartbeats 1000000

theorem rbad_any (v : Value) (b : List Nat) (w : World) (h : Byt w v b) :
    Calls Try.prog 100 #[v] w fun e w' => e = .returned (.bool (badB b)) ∧ w = w' := by
  obtain ⟨ao, cap, rfl, h1, h2⟩ := h.shape
  have hF : Hid (((b.length : Int) != 32) = badB b) := by
    show _ = _
    unfold badB
    rw [Bool.eq_iff_iff, bne_iff_ne, decide_eq_true_iff]
    omega
  obtain ⟨n, hn⟩ : ∃ n, n = b.length := ⟨_, rfl⟩
  rw [← hn] at hF ⊢
  clear h h1 hn
  go_enter Try.func100, Try.ntmps100
  go_wp2
  go_ret
  exact ⟨ret_bool hF.out, rfl⟩
theorem rcall_bad (args : Array Value) (w : World) : (callFunc 100 args).run Try.prog w = .ok (.enter 100 args) w := by
  simp [callFunc, go_sem, Try.func100, Try.f100]
theorem ribad_any (v : Value) (ls : List (List Nat)) (w : World) (h : Parts w v ls) :
    Calls Try.prog 113 #[v, .func (.func 100) #[] #[]] w fun e w' => ∃ r : Int, e = .returned (.int .i64 r) ∧ -1 ≤ r ∧ r ≤ 9223372036854775807 ∧ Hid (0 ≤ r ↔ ls.any badB = true) ∧ Dr w w' := by
  have h' := Lib.hid h
  obtain ⟨ao, cap, rfl, hc1, hc2⟩ := h.shape
  obtain ⟨n, hn⟩ : ∃ n, n = ls.length := ⟨_, rfl⟩
  have HN := Lib.hid hn
  rw [← hn] at h' hc1 ⊢
  have hE := rcall_bad
  clear h hn
  go_enter Try.func113, Try.ntmps113
  go_wp2
  go_loopw [8] (fun i w' => ∃ k : Nat, k ≤ n ∧ i = .int .i64 k ∧ Hid ((ls.take k).any badB = false) ∧ Dr w w') (fun i _ => n - (intOf i).toNat)
  case atStart => exact ⟨0, Nat.zero_le _, rfl, Lib.hid rfl, Dr.refl _⟩
  case round =>
    obtain ⟨k, hk, rfl, hall, D⟩ := hrel
    by_cases hlt : k < n
    · obtain ⟨b, off, c, p, rfl, hcc, hp, hy⟩ := (h'.out.up (D.below _)).get (k := k) (by rw [← HN.out]; exact hlt)
      obtain ⟨ac, cc, rfl, _, _⟩ := hy.shape
      obtain ⟨pb, hpb⟩ : ∃ pb, badB p = pb := ⟨_, rfl⟩
      have HP := Lib.hid hpb
      clear hpb
      have hcall := rbad_any _ p wr hy
      go_wp2_with fail
      refine Calls.mono hcall ?_
      rw [HP.out]
      rintro e w2 ⟨rfl, rfl⟩
      cases pb
      · go_wp2
        go_roundw
        case rel =>
          refine ⟨k + 1, by omega, by go_num, Lib.hid ?_, D⟩
          rw [take_succ_get hp.out, List.any_append, hall.out]
          simp [HP.out]
        case measure => simp [intOf]; omega
      · go_wp2
        go_ret
        refine ⟨k, rfl, by omega, by omega, Lib.hid ⟨fun _ => ?_, fun _ => by omega⟩, D⟩
        exact List.any_eq_true.2 ⟨p, List.mem_of_getElem? hp.out, HP.out⟩
    · go_wp2
      go_ret
      refine ⟨-1, rfl, by omega, by omega, Lib.hid ⟨fun h => by omega, fun h => ?_⟩, D⟩
      rw [show ls.take k = ls by rw [List.take_of_length_le (by rw [← HN.out]; omega)]] at hall
      rw [hall.out] at h
      cases h
theorem rcbad_any (v : Value) (ls : List (List Nat)) (w : World) (h : Parts w v ls) :
    Calls Try.prog 93 #[v, .func (.func 100) #[] #[]] w fun e w' => e = .returned (.bool (ls.any badB)) ∧ Dr w w' := by
  go_enter Try.func93, Try.ntmps93
  go_wp2_with fail
  refine Calls.mono (ribad_any v ls _ h) ?_
  rintro e w1 ⟨r, rfl, r1, r2, HR, D⟩
  go_wp2
  go_ret
  refine ⟨ret_bool ?_, D⟩
  rw [Bool.eq_iff_iff, ← HR.out, decide_eq_true_iff]
theorem samer_any (v u : Value) (ls ms : List (List Nat)) (w : World) (h : Parts w v ls) (h' : Parts w u ms) :
    Calls Try.prog 101 #[v, u] w fun e w' => e = .returned (.bool (decide (ls = ms))) ∧ Dr w w' := by
  go_enter Try.func101, Try.ntmps101
  go_wp2_with fail
  refine Calls.mono (eqf_any v u ls ms _ h h') ?_
  rintro e w1 ⟨rfl, D⟩
  go_wp2
  go_ret
  exact ⟨rfl, D⟩
end Go.Proofs.Ytenjpldinnbcbaa
