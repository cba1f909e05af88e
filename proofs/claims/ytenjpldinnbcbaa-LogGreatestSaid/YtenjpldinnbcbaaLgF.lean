/- The walk of log.flush over the live disks. -/
import Derived.Test.YtenjpldinnbcbaaLgP
import Derived.Test.YtenjpldinnbcbaaSlS
namespace Go.Proofs.Ytenjpldinnbcbaa
open Go.RowKit
set_option linter.unusedVariables false
set_option linter.unusedSimpArgs false
set_option maxRecDepth 100000
set_option maxHeartbeats 1000000
def flS (c : B.Bn) (d : Nat) : B.Bn := { c with ds := c.ds.set d (D.flushed (B.dk c (d : Int))) }
theorem flS_pw {c : B.Bn} (h : B.Pw c) {d : Nat} (hd : d < c.ds.length) : B.Pw (flS c d) ∧ (flS c d).ds.length = c.ds.length := by
  have hdk : B.dk c (d : Int) = B.at1 c d := by rw [B.at1_eq hd]; exact B.dk_nat (List.getElem?_eq_getElem hd)
  refine ⟨⟨h.down, h.left, fun e he => ?_⟩, by show (c.ds.set _ _).length = _; rw [List.length_set]⟩
  rcases List.mem_or_eq_of_mem_set he with h1 | h1
  · exact h.ok e h1
  · rw [h1, hdk, B.at1_eq hd]
    have hk := h.ok _ (List.getElem_mem hd)
    unfold D.flushed
    split
    · exact hk
    · exact D.flush_ok hk
theorem flF_pw {c : B.Bn} (h : B.Pw c) : ∀ {T : List Nat}, (∀ d ∈ T, d < c.ds.length) → B.Pw (T.foldl flS c) ∧ (T.foldl flS c).ds.length = c.ds.length := by
  intro T
  induction T generalizing c with
  | nil => intro _; exact ⟨h, rfl⟩
  | cons d T ih =>
    intro hT
    obtain ⟨u, l⟩ := flS_pw h (hT d (List.mem_cons_self ..))
    obtain ⟨u2, l2⟩ := ih u (fun e he => by rw [l]; exact hT e (List.mem_cons_of_mem _ he))
    exact ⟨u2, l2.trans l⟩
attribute [local irreducible] Go.Calls Byt Own Parts PA BA Bools OwnD OwnT OwnZ
theorem flush_list (w : World) (base g : Nat) (lv : Value) (hs : List (Nat × Value)) (b : B.Bn) (v : Value) (T : List Nat) (bz : Nat) (h : IsBench w base g lv hs b) (hU : B.Pw b) (hZ : OwnZ w bz v T) (hap : ∀ y, v.ownBlock = some y → ¬ ofB g lv hs y) (hT : ∀ d ∈ T, d < b.ds.length) (hl : T.length ≤ 1000) :
    Calls Try.prog 69 #[.pointer (some ⟨g, 0, none⟩), v] w fun r w' => r = .returned (.int .i64 0) ∧ SX w base g lv hs w' (T.foldl flS b) := by
  have HZ := Lib.hid hZ
  obtain ⟨ao, cap, rfl, _, _⟩ := hZ.shape
  obtain ⟨N, hN⟩ : ∃ N, N = T.length := ⟨_, rfl⟩
  rw [← hN] at HZ hl hap ⊢
  have HN := Lib.hid hN
  have HU := Lib.hid hU
  have HT := Lib.hid hT
  have HAP := Lib.hid hap
  have S0 : Hid (SX w base g lv hs w b) := ⟨hs, h, Fr.refl _ _, fun y hy => .inl hy⟩
  clear hZ hU hT hN h hap
  go_enter Try.func69, Try.ntmps69
  go_wp2
  go_loopw [10] (fun kv X => ∃ k : Nat, k ≤ N ∧ kv = .int .i64 k ∧ Hid (SX w base g lv hs X ((T.take k).foldl flS b))) (fun kv _ => N - (intOf kv).toNat)
  case atStart => exact ⟨0, Nat.zero_le _, rfl, S0⟩
  case round =>
    obtain ⟨k, hk, rfl, HS⟩ := hrel
    by_cases hlt : k < N
    · have hk1 : IntKind.i64.wrap ((k : Int) + 1) = ((k + 1 : Nat) : Int) := by rw [IntKind.wrap_i64]; omega
      have hkI : (k : Int) < (N : Int) := by omega
      have hk0 : (0 : Int) ≤ (k : Int) := by omega
      have HLT := Lib.hid hlt
      obtain ⟨d, hd⟩ : ∃ d, T[k]? = some d := ⟨T[k]'(by rw [← HN.out]; exact hlt), List.getElem?_eq_getElem _⟩
      obtain ⟨hs1, I1, F1, q1⟩ := HS.out
      obtain ⟨gz, hao, hcd⟩ := (HZ.out.fr F1 HAP.out).at hd
      subst hao
      have HD := Lib.hid hd
      obtain ⟨u1, l1⟩ := flF_pw HU.out (T := T.take k) (fun e he => HT.out e (List.mem_of_mem_take he))
      have HCL := Lib.hid (bflush_yes wr base g lv hs1 ((T.take k).foldl flS b) d I1 (by rw [l1]; exact HT.out d (List.mem_of_getElem? hd)) u1.down)
      have HCL2 : Hid (Calls Try.prog 58 #[.pointer (some ⟨g, 0, none⟩), .int .i64 (d : Int)] wr fun e w' => e = .returned (.int .i64 (if (B.dk ((T.take k).foldl flS b) (d : Int)).f then 5 else 0)) ∧ SX w base g lv hs w' ((T.take (k + 1)).foldl flS b)) := by
        refine Calls.mono HCL.out ?_
        rintro e w' ⟨rfl, hs7, I7, F7, q7⟩
        refine ⟨rfl, ?_⟩
        rw [List.take_add_one, hd, List.foldl_append]
        exact SX.next F1 q1 I7 F7 q7
      obtain ⟨er, her⟩ : ∃ er : Int, er = if (B.dk ((T.take k).foldl flS b) (d : Int)).f then 5 else 0 := ⟨_, rfl⟩
      rw [← her] at HCL2
      have HB := lgbad_any er
      have hnb : decide (er ≠ 0 ∧ er ≠ 5) = false := by rw [her]; split <;> decide
      rw [hnb] at HB
      have HB := Lib.hid HB
      clear hlt hd I1 F1 q1 u1 l1 HCL her hnb HS
      go_wp2_with fail
      refine Calls.mono HCL2.out ?_
      rintro r w2 ⟨rfl, S2⟩
      have S2 := Lib.hid S2
      go_wp2_with fail
      refine Calls.mono (HB.out _) ?_
      rintro r w3 ⟨rfl, rfl⟩
      go_wp2
      go_roundw
      case rel => exact ⟨k + 1, HLT.out, by go_num, S2⟩
      case measure => have := HLT.out; simp [intOf]; omega
    · have hke : k = N := by omega
      subst hke
      have S9 := HS.out
      rw [HN.out, List.take_length] at S9
      have S9 := Lib.hid S9
      go_wp2
      go_ret
      exact ⟨rfl, S9.out⟩
end Go.Proofs.Ytenjpldinnbcbaa
