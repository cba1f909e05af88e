/- The walks of bench's Pending, Fail, Failed, Flush, Damage. -/
import Derived.Test.YtggljcdkiaggeaaBenchX
namespace Go.Proofs.Ytggljcdkiaggeaa
open Go.RowKit
set_option linter.unusedVariables false
set_option linter.unusedSimpArgs false
set_option maxRecDepth 100000
set_option maxHeartbeats 1000000

theorem sum_le_all : ∀ (l : List Nat) (k : Nat), (l.take k).sum ≤ l.sum
  | [], k => by simp
  | x :: l, 0 => by simp
  | x :: l, k + 1 => by
    rw [List.take_succ_cons, List.sum_cons, List.sum_cons]
    have := sum_le_all l k
    omega
theorem bpending_any (w : World) (base g : Nat) (lv : Value) (hs : List (Nat × Value)) (b : B.Bn) (h : IsBench w base g lv hs b) (hp : B.pending b ≤ 4611686018427387904) :
    Calls Try.prog 42 #[.pointer (some ⟨g, 0, none⟩)] w fun e w' => e = .returned (.int .i64 (B.pending b : Nat)) ∧ w = w' := by
  have hc := h.cell.2.2.2
  have HH := Lib.hid h
  have HP := Lib.hid hp
  obtain ⟨ao, cap, rfl, hcap, _⟩ := h.shape
  clear h hp
  go_enter Try.func42, Try.ntmps42
  go_wp2
  go_loopw [3, 11] (fun n i w' => ∃ k : Nat, k ≤ b.ds.length ∧ i = .int .i64 k ∧ n = .int .i64 (((b.ds.map (fun d => d.p.length)).take k).sum : Nat) ∧ w = w') (fun _ i _ => b.ds.length - (intOf i).toNat)
  case atStart => exact ⟨0, Nat.zero_le _, rfl, rfl, rfl⟩
  case round =>
    obtain ⟨k, hk, rfl, rfl, rfl⟩ := hrel
    by_cases hlt : k < b.ds.length
    · obtain ⟨bl, y, d, rfl, hcell, hky, hdk, hD⟩ := HH.out.get hlt
      have hs1 := sum_le_all (b.ds.map (fun d => d.p.length)) (k + 1)
      have hs2 : ((b.ds.map (fun d => d.p.length)).take (k + 1)).sum = ((b.ds.map (fun d => d.p.length)).take k).sum + d.p.length := by
        rw [take_succ_get (c := d.p.length) (by rw [List.getElem?_map, hdk]; rfl), List.sum_append]
        simp
      have hs3 : (b.ds.map (fun d => d.p.length)).sum ≤ 4611686018427387904 := HP.out
      have HS2 := Lib.hid hs2
      obtain ⟨s, hs⟩ : ∃ s, s = ((b.ds.map (fun d => d.p.length)).take k).sum := ⟨_, rfl⟩
      rw [← hs] at hs2 HS2 ⊢
      have hs4 : s + d.p.length ≤ 4611686018427387904 := by omega
      have HD := Lib.hid hD
      clear hs hs1 hs2 hs3 hky hdk hD
      go_wp2_with fail
      refine Calls.mono (pending_any _ _ _ _ _ HD.out) ?_
      rintro e w2 ⟨rfl, rfl⟩
      go_wp2
      go_roundw
      case rel => exact ⟨k + 1, by omega, by go_num, by rw [HS2.out]; first | rfl | go_num, by first | trivial | rfl⟩
      case measure => simp [intOf]; omega
    · have hke : k = b.ds.length := by omega
      have HE : Hid (((b.ds.map (fun d => d.p.length)).take k).sum = B.pending b) := by
        show _ = _
        unfold B.pending
        rw [List.take_of_length_le (by simp; omega)]
      rw [HE.out]
      clear hke HE
      go_wp2
      go_ret
      exact ⟨rfl, rfl⟩
theorem bfail_any (w : World) (base g : Nat) (lv : Value) (hs : List (Nat × Value)) (b : B.Bn) (i : Nat) (h : IsBench w base g lv hs b) (hi : i < b.ds.length) :
    Calls Try.prog 44 #[.pointer (some ⟨g, 0, none⟩), .int .i64 i] w fun e w' => e = .returned (.int .i64 0) ∧ ∃ hs', IsBench w' base g lv hs' { b with ds := b.ds.set i D.fail } ∧ Fr (ofB g lv hs) w w' ∧ ∀ y, ofB g lv hs' y → ofB g lv hs y ∨ w.heap.size ≤ y := by
  have HC := bis_any w base g lv hs b (i : Int) h
  rw [show B.is b (i : Int) = true from decide_eq_true ⟨by omega, by omega⟩] at HC
  have HC := Lib.hid HC
  have hc := h.cell.2.2.2
  obtain ⟨ao, cap, rfl, hcap, _⟩ := h.shape
  obtain ⟨bl, k, dk, rfl, hcell, hk, hdk, hD⟩ := h.get (i := i) hi
  have HH := Lib.hid h
  have HK := Lib.hid hk
  have HD := Lib.hid hD
  clear h hk hdk hD
  go_enter Try.func44, Try.ntmps44
  go_wp2_with fail
  refine Calls.mono HC.out ?_
  rintro e w1 ⟨rfl, rfl⟩
  go_wp2_with fail
  refine Calls.mono (fail_any w _ _ _ _ HD.out) ?_
  rintro e w2 ⟨rfl, D2, F2⟩
  obtain ⟨H4, G4, q4⟩ := HH.out.setDisk HK.out F2.obj D2 (fun x hx => by cases hx)
  go_wp2
  go_ret
  exact ⟨rfl, _, H4, G4, q4⟩
theorem bfailed_any (w : World) (base g : Nat) (lv : Value) (hs : List (Nat × Value)) (b : B.Bn) (i : Nat) (h : IsBench w base g lv hs b) (hi : i < b.ds.length) :
    Calls Try.prog 45 #[.pointer (some ⟨g, 0, none⟩), .int .i64 i] w fun e w' => e = .returned (.bool (B.dk b i).f) ∧ w = w' := by
  have HC := bis_any w base g lv hs b (i : Int) h
  rw [show B.is b (i : Int) = true from decide_eq_true ⟨by omega, by omega⟩] at HC
  have HC := Lib.hid HC
  have hc := h.cell.2.2.2
  obtain ⟨ao, cap, rfl, hcap, _⟩ := h.shape
  obtain ⟨bl, k, dk, rfl, hcell, hk, hdk, hD⟩ := h.get (i := i) hi
  rw [B.dk_nat hdk]
  have HD := Lib.hid hD
  clear h hk hdk hD
  go_enter Try.func45, Try.ntmps45
  go_wp2_with fail
  refine Calls.mono HC.out ?_
  rintro e w1 ⟨rfl, rfl⟩
  go_wp2_with fail
  refine Calls.mono (failed_any w _ _ _ _ HD.out) ?_
  rintro e w2 ⟨rfl, rfl⟩
  go_wp2
  go_ret
  exact ⟨rfl, rfl⟩
theorem bflush_down (w : World) (base g : Nat) (lv : Value) (hs : List (Nat × Value)) (b : B.Bn) (d : Int) (h : IsBench w base g lv hs b) (hm : B.may b d ≠ 0) :
    Calls Try.prog 49 #[.pointer (some ⟨g, 0, none⟩), .int .i64 d] w fun e w' => e = .returned (.int .i64 (B.may b d)) ∧ w = w' := by
  have HC := Lib.hid (bmay_any w base g lv hs b d h)
  obtain ⟨m, hmm⟩ : ∃ m, m = B.may b d := ⟨_, rfl⟩
  rw [← hmm] at hm HC ⊢
  have hb : (m != 0) = true := by rw [bne_iff_ne]; exact hm
  clear hm hmm h
  go_enter Try.func49, Try.ntmps49
  go_wp2_with fail
  refine Calls.mono HC.out ?_
  rintro e w1 ⟨rfl, rfl⟩
  go_wp2
  go_ret
  exact ⟨rfl, rfl⟩
theorem bflush_yes (w : World) (base g : Nat) (lv : Value) (hs : List (Nat × Value)) (b : B.Bn) (i : Nat) (h : IsBench w base g lv hs b) (hi : i < b.ds.length) (hd : b.down = false) :
    Calls Try.prog 49 #[.pointer (some ⟨g, 0, none⟩), .int .i64 i] w fun e w' => e = .returned (.int .i64 (if (B.dk b i).f then 5 else 0)) ∧ ∃ hs', IsBench w' base g lv hs' { b with ds := b.ds.set i (D.flushed (B.dk b i)) } ∧ Fr (ofB g lv hs) w w' ∧ ∀ y, ofB g lv hs' y → ofB g lv hs y ∨ w.heap.size ≤ y := by
  have HC := bmay_any w base g lv hs b (i : Int) h
  have hm0 : B.may b (i : Int) = 0 := by unfold B.may; rw [show B.is b (i : Int) = true from decide_eq_true ⟨by omega, by omega⟩, hd]; rfl
  rw [hm0] at HC
  have HC := Lib.hid HC
  have hc := h.cell.2.2.2
  obtain ⟨ao, cap, rfl, hcap, _⟩ := h.shape
  obtain ⟨bl, k, dk, rfl, hcell, hk, hdk, hD⟩ := h.get (i := i) hi
  rw [B.dk_nat hdk]
  have HH := Lib.hid h
  have HK := Lib.hid hk
  obtain ⟨m, hm⟩ : ∃ m : Int, m = if dk.f then 5 else 0 := ⟨_, rfl⟩
  have hfl := flushA w _ _ _ _ hD
  rw [← hm] at hfl ⊢
  have HFL := Lib.hid hfl
  clear h hk hdk hD hm0 hd hm hfl
  go_enter Try.func49, Try.ntmps49
  go_wp2_with fail
  refine Calls.mono HC.out ?_
  rintro e w1 ⟨rfl, rfl⟩
  go_wp2_with fail
  refine Calls.mono HFL.out ?_
  rintro e w2 ⟨rfl, pv2, D2, F2, p2⟩
  obtain ⟨H4, G4, q4⟩ := HH.out.setDisk HK.out F2 D2 p2
  go_wp2
  go_ret
  exact ⟨rfl, _, H4, G4, q4⟩
end Go.Proofs.Ytggljcdkiaggeaa
