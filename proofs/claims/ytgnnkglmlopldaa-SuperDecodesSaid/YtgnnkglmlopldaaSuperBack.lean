/- The walk of SuperBack (chapter 9). True at every input. -/
import Derived.Test.YtgnnkglmlopldaaSupOk
import Derived.Test.YtgnnkglmlopldaaSeq
import Derived.Test.YtgnnkglmlopldaaOf9
import Derived.Deep.RegionHeld3
namespace Go.Proofs.Ytgnnkglmlopldaa
open Go.RowKit C
set_option linter.unusedVariables false
set_option linter.unusedSimpArgs false
set_option maxRecDepth 100000
set_option maxHeartbeats 16000000

theorem tmod_in (n : Int) (m : Int) (hm : 1 ≤ m) (hm2 : m ≤ 1000) : i64b (n.tmod m) := by
  have h1 := Int.emod_nonneg n (show m ≠ 0 by omega)
  have h2 := Int.emod_lt_of_pos n (show 0 < m by omega)
  have h3 := Int.emod_nonneg (-n) (show m ≠ 0 by omega)
  have h4 := Int.emod_lt_of_pos (-n) (show 0 < m by omega)
  rw [tmod_cases]
  unfold i64b
  split <;> omega
theorem same_dec {s u : Sup} (hs : s.ok = true) (hu : u.ok = true) : decide (s.enc = u.enc) = s.same u := by
  rw [Bool.eq_iff_iff, decide_eq_true_iff, Sup.same_iff]
  exact ⟨Sup.enc_inj hs hu, fun e => by rw [e]⟩
theorem same_nil {s u : Sup} (hs : s.ok = true) (hu : u.ok = false) : decide (s.enc = []) = s.same u := by
  have h1 : decide (s.enc = []) = false := decide_eq_false fun e => by have := s.enc_len; rw [e] at this; cases this
  have h2 : s.same u = false := Bool.eq_false_iff.2 fun h => by rw [(Sup.same_iff s u).1 h, hu] at hs; cases hs
  rw [h1, h2]
/-- what one byte turned does to a Super's sector -/
theorem turn_is {s : Sup} (hs : s.ok = true) {i c x : Nat} (hx : s.enc[i]? = some x) (hc : c < 256) : Sup.is (s.enc.set i (x ^^^ c)) = (((c : Nat) : Int) == 0) := by
  obtain ⟨hi, he⟩ := List.getElem?_eq_some_iff.1 hx
  by_cases h0 : c = 0
  · subst h0
    have e : s.enc.set i (x ^^^ 0) = s.enc := by rw [Nat.xor_zero, ← he]; exact List.set_getElem_self hi
    rw [e, Sup.is_enc hs]; rfl
  · have h1 : (((c : Nat) : Int) == 0) = false := by rw [beq_eq_false_iff_ne]; omega
    rw [h1, ← he]
    exact Sup.turned hi hc h0
theorem superBack_law (gen : Int) (h0 : -9223372036854775808 ≤ gen ∧ gen ≤ 9223372036854775807) (a : Int) (h1 : -9223372036854775808 ≤ a ∧ a ≤ 9223372036854775807) (b : Int) (h2 : -9223372036854775808 ≤ b ∧ b ≤ 9223372036854775807) (window : Int) (h3 : -9223372036854775808 ≤ window ∧ window ≤ 9223372036854775807) (epoch : Int) (h4 : -9223372036854775808 ≤ epoch ∧ epoch ≤ 9223372036854775807) (out : Int) (h5 : -9223372036854775808 ≤ out ∧ out ≤ 9223372036854775807) (how : Int) (h6 : -9223372036854775808 ≤ how ∧ how ≤ 9223372036854775807) (at' : Int) (h7 : -9223372036854775808 ≤ at' ∧ at' ≤ 9223372036854775807) (c : Int) (hc : 0 ≤ c ∧ c ≤ 255) (other : Int) (h9 : -9223372036854775808 ≤ other ∧ other ≤ 9223372036854775807) (W : World) :
    Calls Try.prog 8 #[.int .i64 gen, .int .i64 a, .int .i64 b, .int .i64 window, .int .i64 epoch, .int .i64 out, .int .i64 how, .int .i64 at', .int .u8 c, .int .i64 other] W fun e W' => e = .returned (.bool true) ∧ Below W.heap.size W W' := by
  obtain ⟨c, rfl⟩ := Int.eq_ofNat_of_zero_le hc.1
  have hc8 : c < 256 := by omega
  have HOF := Lib.hid fun w => of9_any gen a b window epoch out (how.tmod 28) w h0 h1 h2 h3 h4 h5 (tmod_in how 28 (by decide) (by decide))
  have HOU := Lib.hid fun w => of9_any other a b window epoch out (how.tmod 28) w h9 h1 h2 h3 h4 h5 (tmod_in how 28 (by decide) (by decide))
  have HAT := Lib.hid h7
  clear h0 h1 h2 h3 h4 h5 h6 h7 h9 hc
  go_enter Try.func8, Try.ntmps8
  go_wp2_with fail
  refine Calls.mono (HOF.out _) ?_
  rintro e w1 ⟨s, rfl, hin, b1⟩
  unfold sv
  cases hok : s.ok with
  | false =>
    have he := fun w => sencode_no s w hin hok
    unfold sv at *
    have HE := Lib.hid he
    clear he hok
    go_wp2_with fail
    refine Calls.mono (HE.out _) ?_
    rintro e w2 ⟨rfl, b2⟩
    go_wp2_with fail
    refine Calls.mono (wakes9_any _) ?_
    rintro e w6 ⟨rfl, b6⟩
    go_wp2_with fail
    go_ret
    exact ⟨rfl, belT b1 (belT (belA1 (belR _)) (belT b2 b6))⟩
  | true =>
    have he := fun w => sencode_ok s w hok
    unfold sv at *
    have HE := Lib.hid he
    have HOK := Lib.hid hok
    clear he hok
    obtain ⟨wA, hwA⟩ : ∃ wA, wA = w1.alloc (.cells (sc s).toArray 47) := ⟨_, rfl⟩
    have XA : Box wA w1.heap.size (sc s) := by rw [hwA]; exact Box.new _ _ _
    have bA : Below w1.heap.size w1 wA := by rw [hwA]; exact belA1 (belR _)
    have zA : wA.heap.size = w1.heap.size + 1 := by rw [hwA]; simp
    go_wp2_with fail
    rw [show w1.alloc (.cells #[.int .i64 s.gen, .int .i64 s.a.l, .int .i64 s.a.d, .int .i64 s.a.c, .int .i64 s.b.l, .int .i64 s.b.d, .int .i64 s.b.c, .bool s.run, .int .i64 s.win, .int .i64 s.ep, .int .i64 s.out] 47) = wA from hwA.symm]
    clear hwA
    refine Calls.mono (HE.out _) ?_
    rintro e w2 ⟨vx, rfl, OX, b2⟩
    have XA2 := XA.fr (Fr.of_below (S := fun _ => False) b2) id
    go_wp2_with fail
    refine Calls.mono (sdecode_any _ _ _ OX.byt) ?_
    rintro e w3 ⟨rfl, b3⟩
    rw [Sup.is_enc HOK.out, if_pos rfl, Sup.parse_enc HOK.out]
    unfold sv
    obtain ⟨ao, capx, rfl, q1, q2⟩ := OX.byt.shapeN s.enc_len
    have XA3 := XA2.fr (Fr.of_below (S := fun _ => False) b3) id
    obtain ⟨d0, d1, d2, d3, d4, d5, d6, d7, d8, d9, d10⟩ := XA3.cells11
    have d0' := fun o => Lib.cell?_alloc_marked o d0
    have hq := seq_run s s
    rw [(Sup.same_iff s s).2 rfl] at hq
    unfold sv at hq
    have hz : w1.heap.size < w3.heap.size := by have := b2.size; have := b3.size; omega
    go_wp2_with fail
    refine Calls.mono (HOU.out _) ?_
    rintro e w4 ⟨u, rfl, hinu, b4⟩
    clear hq d0 d1 d2 d3 d4 d5 d6 d7 d8 d9 d10 d0'
    unfold sv
    have b34 : Below w3.heap.size w3 w4 := belT (belA1 (belR _)) b4
    have XA4 := XA3.fr (Fr.of_below (S := fun _ => False) b34) id
    have OX4 := (OX.up b3).up b34
    obtain ⟨wB, hwB⟩ : ∃ wB, wB = w4.alloc (.cells (sc u).toArray 47) := ⟨_, rfl⟩
    have XB : Box wB w4.heap.size (sc u) := by rw [hwB]; exact Box.new _ _ _
    have bB : Below w4.heap.size w4 wB := by rw [hwB]; exact belA1 (belR _)
    obtain ⟨ey, hey⟩ : ∃ ey : Int, ey = u.err := ⟨_, rfl⟩
    have HU : Hid (∀ w, Calls Try.prog 21 #[sv u] w fun e w' => ∃ v ly, e = .returned (.tuple #[v, .int .i64 ey]) ∧ Byt w' v ly ∧ decide (s.enc = ly) = s.same u ∧ Below w.heap.size w w') := by
      intro w
      cases huk : u.ok with
      | true => exact (sencode_ok u w huk).mono fun e w' ⟨v, he, ho, hb⟩ => ⟨v, _, by rw [he, hey, Sup.err_yes huk], ho.byt, same_dec HOK.out huk, hb⟩
      | false => exact (sencode_no u w hinu huk).mono fun e w' ⟨he, hb⟩ => ⟨_, [], by rw [he, hey, Sup.err_no huk], Byt.nil _, same_nil HOK.out huk, hb⟩
    clear hey
    unfold sv at HU
    go_wp2_with fail
    rw [show w4.alloc (.cells #[.int .i64 u.gen, .int .i64 u.a.l, .int .i64 u.a.d, .int .i64 u.a.c, .int .i64 u.b.l, .int .i64 u.b.d, .int .i64 u.b.c, .bool u.run, .int .i64 u.win, .int .i64 u.ep, .int .i64 u.out] 47) = wB from hwB.symm]
    clear hwB
    refine Calls.mono (HU.out _) ?_
    rintro e w5 ⟨vy, ly, rfl, BY, hdec, b5⟩
    have HDEC := Lib.hid hdec
    clear hdec
    have b45 := belT bB b5
    have XA5 := XA4.fr (Fr.of_below (S := fun _ => False) b45) id
    have XB5 := XB.fr (Fr.of_below (S := fun _ => False) b5) id
    have OX5 := OX4.up b45
    go_wp2_with fail
    refine Calls.mono (copy_any _ _ _ OX5.byt (by rw [s.enc_len]; decide)) ?_
    rintro e w6 ⟨vz, rfl, OZ, b6⟩
    obtain ⟨gz, capz, e0, z1, z2, z3, z4⟩ := own_shape OZ.2 (by rw [s.enc_len]; decide)
    rw [s.enc_len] at e0
    subst e0
    go_wp2_with fail
    refine Calls.mono (within_ex at' 32 _ (by decide) (by decide) HAT.out) ?_
    rintro e wz ⟨k, rfl, hk, rfl⟩
    obtain ⟨x, hx⟩ : ∃ x, s.enc[k]? = some x := ⟨_, List.getElem?_eq_getElem (by rw [s.enc_len]; omega)⟩
    obtain ⟨hx8, hxc, hxf⟩ := OZ.cells hx
    have hxor := bx8 hx8 hc8
    have OZ2 := OZ.store k (x ^^^ c) (xor8 hx8 hc8)
    have hk0 : (0 : Int) ≤ (k : Int) := by omega
    have HT := Lib.hid (turn_is HOK.out hx hc8)
    have b6' : Below w5.heap.size w5 _ := b6.grown OZ2.2 b6.size (fun g hg => by cases hg; exact z1)
    have HOZ := Lib.hid OZ2.1
    clear hx OZ OZ2
    go_wp2_with fail
    obtain ⟨w7, hw7⟩ : ∃ w7, w7 = w6.setCell ⟨gz, k, none⟩ (.int .u8 ((x ^^^ c : Nat) : Int)) := ⟨_, rfl⟩
    rw [← hw7] at HOZ b6' ⊢
    clear hw7 hxc hxf
    refine Calls.mono (sdecode_any _ _ _ HOZ.out.byt) ?_
    rintro e w8 ⟨rfl, b8⟩
    rw [HT.out]
    have XA8 := (XA5.fr (Fr.of_below (S := fun _ => False) b6') id).fr (Fr.of_below (S := fun _ => False) b8) id
    have XB8 := (XB5.fr (Fr.of_below (S := fun _ => False) b6') id).fr (Fr.of_below (S := fun _ => False) b8) id
    have OX8 := (OX5.up b6').up b8
    have BY8 := (BY.up b6').up b8
    have bAll : Below W.heap.size W w8 := belT b1 (belT bA (belT b2 (belT b3 (belT b34 (belT b45 (belT b6' b8))))))
    have HKS : Hid (∀ Wd, Below w8.heap.size w8 Wd → Box Wd w1.heap.size (sc s) ∧ Box Wd w4.heap.size (sc u)) := fun Wd hWd => ⟨XA8.fr (Fr.of_below (S := fun _ => False) hWd) id, XB8.fr (Fr.of_below (S := fun _ => False) hWd) id⟩
    have hq := seq_run s u
    unfold sv at hq
    change ∀ w, (Op.equalIn 10000 47 (.agg (sc s).toArray) (.agg (sc u).toArray)).run Try.prog w = _ at hq
    obtain ⟨q, hqq⟩ : ∃ q, q = s.same u := ⟨_, rfl⟩
    rw [← hqq] at hq HDEC
    clear hqq
    obtain ⟨B, hB⟩ : ∃ B, B = (((c : Nat) : Int) == 0) := ⟨_, rfl⟩
    have hcb : (((c : Nat) : Int) == 0) = B := hB.symm
    rw [← hB]
    clear hB
    cases B
    all_goals
      simp only [if_true, if_false, Bool.false_eq_true]
      unfold sv
      go_wp2_with fail
      refine wp_region_held_drew (S := fun W => Box W w1.heap.size (sc s) ∧ Box W w4.heap.size (sc u)) (by kernel_rfl) (HKS.out _ (by iterate 8 try (first | assumption | apply belDr | apply belAlloc | exact belR _))) (fun hHeld => ?_)
      refine wpAnyH_take (i := 0) (oi := _) (v := ?_) rfl (by kernel_rfl) (by kernel_rfl) (by kernel_rfl) (fun _ _ _ h => h) (Or.inl ⟨by rfl, ?_⟩) (by assumption) ?_
      rotate_left
      · intro w hSw
        (try dsimp only at hSw)
        go_simp
        try with_reducible rfl
      try simp only [Act.put, List.getElem_toArray, List.getElem_cons_zero, List.getElem_cons_succ, List.setIfInBounds_toArray, List.set_cons_zero, List.set_cons_succ]
      refine wpAnyH_take (i := 1) (oi := _) (v := ?_) rfl (by kernel_rfl) (by kernel_rfl) (by kernel_rfl) (fun _ _ _ h => h) (Or.inl ⟨by rfl, ?_⟩) (by assumption) ?_
      rotate_left
      · intro w hSw
        (try dsimp only at hSw)
        go_simp
        try with_reducible rfl
      try simp only [Act.put, List.getElem_toArray, List.getElem_cons_zero, List.getElem_cons_succ, List.setIfInBounds_toArray, List.set_cons_zero, List.set_cons_succ]
      refine wpAnyH_take (i := 3) (oi := _) (v := .agg (sc s).toArray) rfl (by kernel_rfl) (by kernel_rfl) (by kernel_rfl) (fun _ _ _ h => h) (yieldsIf_load_mid (by rfl) 47 _ rfl w1.heap.size 0 rfl (sc s) _ (fun w h => h.1.range) Try.underlying47 rfl super_info) (by assumption) ?_
      try simp only [Act.put, List.getElem_toArray, List.getElem_cons_zero, List.getElem_cons_succ, List.setIfInBounds_toArray, List.set_cons_zero, List.set_cons_succ]
      refine wpAnyH_take (i := 4) (oi := _) (v := .agg (sc u).toArray) rfl (by kernel_rfl) (by kernel_rfl) (by kernel_rfl) (fun _ _ _ h => h) (yieldsIf_load_mid (by rfl) 47 _ rfl w4.heap.size 0 rfl (sc u) _ (fun w h => h.2.range) Try.underlying47 rfl super_info) (by assumption) ?_
      try simp only [Act.put, List.getElem_toArray, List.getElem_cons_zero, List.getElem_cons_succ, List.setIfInBounds_toArray, List.set_cons_zero, List.set_cons_succ]
      refine wpAnyH_take (i := 5) (oi := _) (v := ?_) rfl (by kernel_rfl) (by kernel_rfl) (by kernel_rfl) (fun _ _ _ h => h) (Or.inl ⟨by rfl, ?_⟩) (by assumption) ?_
      rotate_left
      · intro w hSw
        (try dsimp only at hSw)
        go_simp
        try with_reducible rfl
      try simp only [Act.put, List.getElem_toArray, List.getElem_cons_zero, List.getElem_cons_succ, List.setIfInBounds_toArray, List.set_cons_zero, List.set_cons_succ]
      refine wpAnyH_ready (rs := [2]) (by kernel_rfl) (by simp) ?_
      refine AllReadyH.cons (o := _) rfl (fun K hK => ?_) AllReadyH.nil
      go_simp
      refine Calls.mono (same_any _ _ s.enc ly _ (OX8.byt.up (by iterate 8 try (first | assumption | apply belDr | apply belAlloc | exact belR _))) (BY8.up (by iterate 8 try (first | assumption | apply belDr | apply belAlloc | exact belR _)))) ?_
      rw [HDEC.out]
      rintro e w9 ⟨rfl, d9⟩
      have B9 : Below w8.heap.size w8 w9 := belT (by iterate 8 try (first | assumption | apply belDr | apply belAlloc | exact belR _)) (d9.below _)
      try go_simp
      refine hK.out _ _ (HKS.out _ (by iterate 8 try (first | assumption | apply belDr | apply belAlloc | exact belR _))) (fun hHeld => ?_)
      clear hK K
      try simp only [Act.put, List.getElem_toArray, List.getElem_cons_zero, List.getElem_cons_succ, List.setIfInBounds_toArray, List.set_cons_zero, List.set_cons_succ]
      refine wpAnyH_take (i := 6) (oi := _) (v := ?_) rfl (by kernel_rfl) (by kernel_rfl) (by kernel_rfl) (fun _ _ _ h => h) (Or.inl ⟨by rfl, ?_⟩) (by assumption) ?_
      rotate_left
      · intro w hSw
        (try dsimp only at hSw)
        go_simp
        try with_reducible rfl
      try simp only [Act.put, List.getElem_toArray, List.getElem_cons_zero, List.getElem_cons_succ, List.setIfInBounds_toArray, List.set_cons_zero, List.set_cons_succ]
      refine wpAnyH_take (i := 7) (oi := _) (v := ?_) rfl (by kernel_rfl) (by kernel_rfl) (by kernel_rfl) (fun _ _ _ h => h) (Or.inl ⟨by rfl, ?_⟩) (by assumption) ?_
      rotate_left
      · intro w hSw
        (try dsimp only at hSw)
        go_simp
        try with_reducible rfl
      try simp only [Act.put, List.getElem_toArray, List.getElem_cons_zero, List.getElem_cons_succ, List.setIfInBounds_toArray, List.set_cons_zero, List.set_cons_succ]
      refine wpAnyH_take (i := 8) (oi := _) (v := ?_) rfl (by kernel_rfl) (by kernel_rfl) (by kernel_rfl) (fun _ _ _ h => h) (Or.inl ⟨by rfl, ?_⟩) (by assumption) ?_
      rotate_left
      · intro w hSw
        (try dsimp only at hSw)
        go_simp
        try with_reducible rfl
      try simp only [Act.put, List.getElem_toArray, List.getElem_cons_zero, List.getElem_cons_succ, List.setIfInBounds_toArray, List.set_cons_zero, List.set_cons_succ]
      refine wpAnyH_take (i := 10) (oi := _) (v := ?_) rfl (by kernel_rfl) (by kernel_rfl) (by kernel_rfl) (fun _ _ _ h => h) (Or.inl ⟨by rfl, ?_⟩) (by assumption) ?_
      rotate_left
      · intro w hSw
        (try dsimp only at hSw)
        go_simp
        try with_reducible rfl
      try simp only [Act.put, List.getElem_toArray, List.getElem_cons_zero, List.getElem_cons_succ, List.setIfInBounds_toArray, List.set_cons_zero, List.set_cons_succ]
      refine wpAnyH_take (i := 9) (oi := _) (v := ?_) rfl (by kernel_rfl) (by kernel_rfl) (by kernel_rfl) (fun _ _ _ h => h) (Or.inl ⟨by rfl, ?_⟩) (by assumption) ?_
      rotate_left
      · intro w hSw
        (try dsimp only at hSw)
        go_simp
        try with_reducible rfl
      try simp only [Act.put, List.getElem_toArray, List.getElem_cons_zero, List.getElem_cons_succ, List.setIfInBounds_toArray, List.set_cons_zero, List.set_cons_succ]
      refine wpAnyH_take (i := 11) (oi := _) (v := ?_) rfl (by kernel_rfl) (by kernel_rfl) (by kernel_rfl) (fun _ _ _ h => h) (Or.inl ⟨by rfl, ?_⟩) (by assumption) ?_
      rotate_left
      · intro w hSw
        (try dsimp only at hSw)
        go_simp
        try with_reducible rfl
      try simp only [Act.put, List.getElem_toArray, List.getElem_cons_zero, List.getElem_cons_succ, List.setIfInBounds_toArray, List.set_cons_zero, List.set_cons_succ]
      refine wpAnyH_take (i := 12) (oi := _) (v := ?_) rfl (by kernel_rfl) (by kernel_rfl) (by kernel_rfl) (fun _ _ _ h => h) (Or.inl ⟨by rfl, ?_⟩) (by assumption) ?_
      rotate_left
      · intro w hSw
        (try dsimp only at hSw)
        go_simp
        try with_reducible rfl
      try simp only [Act.put, List.getElem_toArray, List.getElem_cons_zero, List.getElem_cons_succ, List.setIfInBounds_toArray, List.set_cons_zero, List.set_cons_succ]
      refine wpAnyH_take (i := 13) (oi := _) (v := ?_) rfl (by kernel_rfl) (by kernel_rfl) (by kernel_rfl) (fun _ _ _ h => h) (Or.inl ⟨by rfl, ?_⟩) (by assumption) ?_
      rotate_left
      · intro w hSw
        (try dsimp only at hSw)
        go_simp
        try with_reducible rfl
      try simp only [Act.put, List.getElem_toArray, List.getElem_cons_zero, List.getElem_cons_succ, List.setIfInBounds_toArray, List.set_cons_zero, List.set_cons_succ]
      refine wpAnyH_take (i := 14) (oi := _) (v := ?_) rfl (by kernel_rfl) (by kernel_rfl) (by kernel_rfl) (fun _ _ _ h => h) (Or.inl ⟨by rfl, ?_⟩) (by assumption) ?_
      rotate_left
      · intro w hSw
        (try dsimp only at hSw)
        go_simp
        try with_reducible rfl
      try simp only [Act.put, List.getElem_toArray, List.getElem_cons_zero, List.getElem_cons_succ, List.setIfInBounds_toArray, List.set_cons_zero, List.set_cons_succ]
      refine wpAnyH_ready (rs := [15]) (by kernel_rfl) (by simp) ?_
      refine AllReadyH.cons (o := _) rfl (fun K hK => ?_) AllReadyH.nil
      go_simp
      refine Calls.mono (wakes9_any _) ?_
      rintro e w10 ⟨rfl, b10⟩
      have B10 : Below w8.heap.size w8 w10 := belT (by iterate 8 try (first | assumption | apply belDr | apply belAlloc | exact belR _)) b10
      try go_simp
      refine hK.out _ _ (HKS.out _ (by iterate 8 try (first | assumption | apply belDr | apply belAlloc | exact belR _))) (fun hHeld => ?_)
      clear hK K
      try simp only [Act.put, List.getElem_toArray, List.getElem_cons_zero, List.getElem_cons_succ, List.setIfInBounds_toArray, List.set_cons_zero, List.set_cons_succ]
      refine wpAnyH_take (i := 16) (oi := _) (v := ?_) rfl (by kernel_rfl) (by kernel_rfl) (by kernel_rfl) (fun _ _ _ h => h) (Or.inl ⟨by rfl, ?_⟩) (by assumption) ?_
      rotate_left
      · intro w hSw
        (try dsimp only at hSw)
        go_simp
        try with_reducible rfl
      try simp only [Act.put, List.getElem_toArray, List.getElem_cons_zero, List.getElem_cons_succ, List.setIfInBounds_toArray, List.set_cons_zero, List.set_cons_succ]
      refine wpAnyH_take (i := 17) (oi := _) (v := ?_) rfl (by kernel_rfl) (by kernel_rfl) (by kernel_rfl) (fun _ _ _ h => h) (Or.inl ⟨by rfl, ?_⟩) (by assumption) ?_
      rotate_left
      · intro w hSw
        (try dsimp only at hSw)
        go_simp
        try with_reducible rfl
      try simp only [Act.put, List.getElem_toArray, List.getElem_cons_zero, List.getElem_cons_succ, List.setIfInBounds_toArray, List.set_cons_zero, List.set_cons_succ]
      refine wpAnyH_done (by kernel_rfl) ?_ _
      go_wp2_with fail
      go_ret
      exact ⟨rfl, belT bAll (by iterate 8 try (first | assumption | apply belDr | apply belAlloc | exact belR _))⟩
end Go.Proofs.Ytgnnkglmlopldaa
