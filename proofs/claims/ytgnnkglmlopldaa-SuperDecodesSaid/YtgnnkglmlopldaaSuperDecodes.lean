/- The walk of SuperDecodes (chapter 9). True at every input. -/
import Derived.Test.YtgnnkglmlopldaaSuperBack
import Derived.Test.YtgnnkglmlopldaaKeepCut
import Derived.Test.YtgnnkglmlopldaaOpen
import Derived.Deep.CutRange
namespace Go.Proofs.Ytgnnkglmlopldaa
open Go.RowKit C
set_option linter.unusedVariables false
set_option linter.unusedSimpArgs false
set_option maxRecDepth 100000
set_option maxHeartbeats 16000000

/-- a sector of the law's own -/
def Sec (W0 W : World) (v : Value) : Prop := ∃ X : List Nat, X.length = 32 ∧ Own W W0.heap.size v X ∧ Below W0.heap.size W0 W
theorem sealed_byte32 {X : List Nat} (h : X.length = 32) : (sealed X []).length = 32 := sealed_len [] h
theorem superDecodes_law (W : World) (gen : Int) (h0 : -9223372036854775808 ≤ gen ∧ gen ≤ 9223372036854775807) (a : Int) (h1 : -9223372036854775808 ≤ a ∧ a ≤ 9223372036854775807) (b : Int) (h2 : -9223372036854775808 ≤ b ∧ b ≤ 9223372036854775807) (window : Int) (h3 : -9223372036854775808 ≤ window ∧ window ≤ 9223372036854775807) (epoch : Int) (h4 : -9223372036854775808 ≤ epoch ∧ epoch ≤ 9223372036854775807) (out : Int) (h5 : -9223372036854775808 ≤ out ∧ out ≤ 9223372036854775807) (how : Int) (h6 : -9223372036854775808 ≤ how ∧ how ≤ 9223372036854775807) (at' : Int) (h7 : -9223372036854775808 ≤ at' ∧ at' ≤ 9223372036854775807) (c : Int) (hc : 0 ≤ c ∧ c ≤ 255) (sl : Bool) (v10 : Value) (raw : List Nat) (hraw : Byt W v10 raw) (_ : raw.length ≤ 140737488351232) :
    Calls Try.prog 7 #[.int .i64 gen, .int .i64 a, .int .i64 b, .int .i64 window, .int .i64 epoch, .int .i64 out, .int .i64 how, .int .i64 at', .int .u8 c, .bool sl, v10] W fun e W' => e = .returned (.bool true) ∧ Below W.heap.size W W' := by
  obtain ⟨c, rfl⟩ := Int.eq_ofNat_of_zero_le hc.1
  have hc8 : c < 256 := by omega
  have HOF := Lib.hid fun w => of9_any gen a b window epoch out how w h0 h1 h2 h3 h4 h5 h6
  have HAT := Lib.hid h7
  have HRAW := Lib.hid hraw
  obtain ⟨j0, hj, hy0, hy1, hy2⟩ := info_parts uint8_info
  clear h0 h1 h2 h3 h4 h5 h6 h7 hc hraw
  go_enter Try.func7, Try.ntmps7
  go_wp2_with fail
  refine Calls.mono (HOF.out _) ?_
  rintro e w1 ⟨s, rfl, hin, b1⟩
  have HR : Hid (∀ w, Calls Try.prog 26 #[sv s] w fun e w' => ∃ v, e = .returned (.tuple #[v, .bool s.ok]) ∧ (s.ok = true → Own w' w.heap.size v s.enc) ∧ Below w.heap.size w w') := by
    intro w
    cases hok : s.ok with
    | true => exact (refsencode_ok s w hok).mono fun e w' ⟨v, he, ho, hb⟩ => ⟨v, he, fun _ => ho, hb⟩
    | false => exact (refsencode_no s w hin hok).mono fun e w' ⟨he, hb⟩ => ⟨_, he, (fun h => by cases h), hb⟩
  unfold sv at *
  go_wp2_with fail
  refine Calls.mono (HR.out _) ?_
  rintro e w2 ⟨vx, rfl, hox, b2⟩
  have B2 : Below W.heap.size W w2 := belT b1 b2
  obtain ⟨bo, hbo⟩ : ∃ bo, bo = s.ok := ⟨_, rfl⟩
  rw [← hbo]
  have HOX : Hid (bo = true → Own w2 w1.heap.size vx s.enc) := fun h => hox (by rw [← hbo]; exact h)
  clear hox hbo
  go_upto_if 44 with (fail)
  go_cut [23] from 45 (fun v W' => Hid (Sec W W' v))
  case first =>
    cases bo with
    | true =>
      have O2 := HOX.out rfl
      have HS : Hid (Sec W w2 vx) := ⟨s.enc, s.enc_len, own_mono O2 b1.size, B2⟩
      clear O2 HOX
      go_wp2_with fail
      go_meet
      case rel => exact HS
    | false =>
      go_wp2_with fail
      refine Calls.mono (cut_ex v10 raw 32 w2 (HRAW.out.up B2) (by decide)) ?_
      rintro e w3 ⟨v3, l3, rfl, _, O3, l32, b3⟩
      have B3 : Below W.heap.size W w3 := belT B2 b3
      obtain ⟨ao3, cap3, rfl, _, _⟩ := O3.byt.shape
      go_wp2_with (at_builtin; refine wpList_append_zbytes rfl _ _ 37 3 rfl j0 Try.underlying37 .i64 .i64 Try.underlying3 hj hy0 hy1 hy2 w2.heap.size _ l3 rfl O3 32 rfl (by decide) (by omega) b3.size ?_; intro v4 w4 O4 g4; obtain ⟨g, cap4, rfl, h41, h42, h43, h44⟩ := own_shape O4.2 (by rw [List.length_append, List.length_replicate]; omega); have q4 : 32 ≤ (l3 ++ List.replicate 32 0).length := (by rw [List.length_append, List.length_replicate]; omega); have q5 : 32 ≤ cap4 := (by omega))
      have B4 : Below W.heap.size W w4 := belG B3 g4 (fun g hg => Nat.le_trans B2.size (O3.ge g hg))
      have HS : Hid (Sec W w4 (.slice (some ⟨g, 0, none⟩) 32 cap4)) := ⟨_, by rw [List.length_take]; omega, own_mono (O4.take (k := 32) q4) B2.size, B4⟩
      go_meet
      case rel => exact HS
  obtain ⟨X, hX, OX, B3⟩ := hcut.out
  obtain ⟨gx, capx, e0, z1, z2, z3, z4⟩ := own_shape OX.2 (by rw [hX]; decide)
  rw [hX] at e0
  subst e0
  have HX := Lib.hid hX
  clear hX hcut
  go_wp2_with fail
  refine Calls.mono (within_ex at' 32 _ (by decide) (by decide) HAT.out) ?_
  rintro e wz ⟨k, rfl, hk, rfl⟩
  obtain ⟨x, hx⟩ : ∃ x, X[k]? = some x := ⟨_, List.getElem?_eq_getElem (by rw [HX.out]; omega)⟩
  obtain ⟨hx8, hxc, hxf⟩ := OX.cells hx
  have hxor := bx8 hx8 hc8
  have OX2 := OX.store k (x ^^^ c) (xor8 hx8 hc8)
  have hk0 : (0 : Int) ≤ (k : Int) := by omega
  have B4 : Below W.heap.size W _ := B3.grown OX2.2 B3.size (fun g hg => by cases hg; exact z1)
  have HOX := Lib.hid OX2.1
  clear hx OX OX2
  go_upto_if 57 with (fail)
  obtain ⟨w7, hw7⟩ : ∃ w7, w7 = wc.setCell ⟨gx, k, none⟩ (.int .u8 ((x ^^^ c : Nat) : Int)) := ⟨_, rfl⟩
  rw [← hw7] at HOX B4 ⊢
  clear hw7 hxc hxf
  go_cut [23] from 58 (fun v W' => Hid (Sec W W' v))
  case first =>
    cases sl with
    | true =>
      go_wp2_with fail
      refine Calls.mono (sealed_any _ _ _ [] _ HOX.out.byt (by rw [List.length_set]; exact HX.out) (Parts.nil _) (by simp)) ?_
      rintro e w8 ⟨vy, rfl, OY, b8⟩
      have HS : Hid (Sec W w8 vy) := ⟨_, sealed_len [] (by rw [List.length_set]; exact HX.out), own_mono OY B4.size, belT B4 b8⟩
      go_wp2_with fail
      go_meet
      case rel => exact HS
    | false =>
      have HS : Hid (Sec W w7 (.slice (some ⟨gx, 0, none⟩) 32 capx)) := ⟨_, by rw [List.length_set]; exact HX.out, HOX.out, B4⟩
      go_wp2_with fail
      go_meet
      case rel => exact HS
  clear HOX HX B4 B3
  obtain ⟨Y, hY, OY, B5⟩ := hcut.out
  obtain ⟨gy, capy, e0, z1, z2, z3, z4⟩ := own_shape OY.2 (by rw [hY]; decide)
  rw [hY] at e0 z3
  have q31 : (31 : Int) ≤ (capy : Int) := by omega
  have q31' : 31 ≤ capy := by omega
  subst e0
  have HY := Lib.hid hY
  have HOY := Lib.hid OY
  clear hY OY hcut
  go_wp2_with fail
  refine wp_region_held_drew (S := fun _ => True) (by kernel_rfl) trivial (fun hHeld => ?_)
  refine wpAnyH_take (i := 0) (oi := _) (v := ?_) rfl (by kernel_rfl) (by kernel_rfl) (by kernel_rfl) (fun _ _ _ h => h) (Or.inl ⟨by rfl, ?_⟩) (by assumption) ?_
  rotate_left
  · intro w hSw
    (try dsimp only at hSw)
    go_simp
    try with_reducible rfl
  try simp only [Act.put, List.getElem_toArray, List.getElem_cons_zero, List.getElem_cons_succ, List.setIfInBounds_toArray, List.set_cons_zero, List.set_cons_succ]
  refine wpAnyH_take (i := 1) (oi := _) (v := ?_) rfl (by kernel_rfl) (by kernel_rfl) (by kernel_rfl) (fun _ _ _ h => h) (Or.inl ⟨by rfl, ?_⟩) (by assumption) ?_
  rotate_left
  · intro w hSw
    (try dsimp only at hSw)
    go_simp
    try with_reducible rfl
  try simp only [Act.put, List.getElem_toArray, List.getElem_cons_zero, List.getElem_cons_succ, List.setIfInBounds_toArray, List.set_cons_zero, List.set_cons_succ]
  refine wpAnyH_take (i := 3) (oi := _) (v := ?_) rfl (by kernel_rfl) (by kernel_rfl) (by kernel_rfl) (fun _ _ _ h => h) (Or.inl ⟨by rfl, ?_⟩) (by assumption) ?_
  rotate_left
  · intro w hSw
    (try dsimp only at hSw)
    go_simp
    try with_reducible rfl
  try simp only [Act.put, List.getElem_toArray, List.getElem_cons_zero, List.getElem_cons_succ, List.setIfInBounds_toArray, List.set_cons_zero, List.set_cons_succ]
  refine wpAnyH_take (i := 7) (oi := _) (v := ?_) rfl (by kernel_rfl) (by kernel_rfl) (by kernel_rfl) (fun _ _ _ h => h) (Or.inl ⟨by rfl, ?_⟩) (by assumption) ?_
  rotate_left
  · intro w hSw
    (try dsimp only at hSw)
    go_simp
    try with_reducible rfl
  try simp only [Act.put, List.getElem_toArray, List.getElem_cons_zero, List.getElem_cons_succ, List.setIfInBounds_toArray, List.set_cons_zero, List.set_cons_succ]
  refine wpAnyH_take (i := 4) (oi := _) (v := ?_) rfl (by kernel_rfl) (by kernel_rfl) (by kernel_rfl) (fun _ _ _ h => h) (Or.inl ⟨by rfl, ?_⟩) (by assumption) ?_
  rotate_left
  · intro w hSw
    (try dsimp only at hSw)
    go_simp
    try with_reducible rfl
  try simp only [Act.put, List.getElem_toArray, List.getElem_cons_zero, List.getElem_cons_succ, List.setIfInBounds_toArray, List.set_cons_zero, List.set_cons_succ]
  refine wpAnyH_ready (rs := [2]) (by kernel_rfl) (by simp) ?_
  refine AllReadyH.cons (o := _) rfl (fun K hK => ?_) AllReadyH.nil
  go_simp
  refine Calls.mono (cut_ex v10 raw 40 _ (HRAW.out.up (by iterate 8 try (first | assumption | apply belDr | apply belAlloc | exact belR _))) (by decide)) ?_
  rintro e w9 ⟨v9, l9, rfl, _, O9, l40, b9⟩
  obtain ⟨ao9, cap9, rfl, _, _⟩ := O9.byt.shape
  try go_simp
  refine hK.out _ _ trivial (fun hHeld => ?_)
  clear hK K
  try simp only [Act.put, List.getElem_toArray, List.getElem_cons_zero, List.getElem_cons_succ, List.setIfInBounds_toArray, List.set_cons_zero, List.set_cons_succ]
  refine wpAnyH_ready (rs := [5]) (by kernel_rfl) (by simp) ?_
  refine AllReadyH.cons (o := _) rfl (fun K hK => ?_) AllReadyH.nil
  go_simp
  refine hK.out _ _ trivial (fun hHeld => ?_)
  clear hK K
  try simp only [Act.put, List.getElem_toArray, List.getElem_cons_zero, List.getElem_cons_succ, List.setIfInBounds_toArray, List.set_cons_zero, List.set_cons_succ]
  refine wpAnyH_ready (rs := [6]) (by kernel_rfl) (by simp) ?_
  refine AllReadyH.cons (o := _) rfl (fun K hK => ?_) AllReadyH.nil
  go_simp
  refine hK.out _ _ trivial (fun hHeld => ?_)
  clear hK K
  try simp only [Act.put, List.getElem_toArray, List.getElem_cons_zero, List.getElem_cons_succ, List.setIfInBounds_toArray, List.set_cons_zero, List.set_cons_succ]
  refine wpAnyH_done (by kernel_rfl) ?_ _
  go_wp2_with fail
  have B9 : Below W.heap.size W w9 := belT B5 (belT (belDr (belR _)) b9)
  have OY9 := HOY.out.up (belT (belDr (belR _)) b9)
  obtain ⟨wL, hwL⟩ : ∃ wL, wL = w9.alloc (.cells #[.slice (some ⟨gy, 0, none⟩) 32 capy, .slice ao9 l9.length cap9, .slice (some ⟨gy, 0, none⟩) 31 capy] 37) := ⟨_, rfl⟩
  have PL : Parts wL (.slice (some ⟨w9.heap.size, 0, none⟩) 3 3) [Y, l9, Y.take 31] := by
    rw [hwL]
    exact Parts.lit3 rfl OY9.byt O9.byt ((OY9.byt).takeI (k := 31) (by decide))
  have BL : Below W.heap.size W wL := by rw [hwL]; exact belAlloc B9 _
  rw [← hwL]
  clear hwL OY9 O9 b9 B9 HOY HY B5 z1 z2 z3 z4 q31 q31'
  go_loopw [67] (fun i w' => ∃ k : Nat, k ≤ 3 ∧ i = .int .i64 k ∧ Below wL.heap.size wL w') (fun i _ => 3 - (intOf i).toNat)
  case atStart => exact ⟨0, by decide, rfl, belR _⟩
  case round =>
    obtain ⟨k, hk, rfl, hB⟩ := hrel
    by_cases hlt : k < 3
    · obtain ⟨bb, off, v, p, e0, hcl, hp, hby⟩ := PL.getUp hB (k := k) hlt
      cases e0
      rw [Nat.zero_add] at hcl
      have HBY := Lib.hid hby
      clear hby hp
      go_wp2_with fail
      refine Calls.mono (sdecode_any _ p _ (HBY.out.up hB)) ?_
      rintro e wa ⟨rfl, ba⟩
      cases his : Sup.is p with
      | true =>
        rw [if_pos rfl]
        obtain ⟨t, ht⟩ : ∃ t, t = Sup.parse p := ⟨_, rfl⟩
        have HR : Hid (∀ w v, Byt w v p → Calls Try.prog 30 #[v] w fun e w' => e = .returned (.tuple #[sv t, .bool true]) ∧ Below w.heap.size w w') := by
          intro w v hb
          refine (refsdecode_any v p w hb).mono fun e w' ⟨he, hb⟩ => ⟨?_, hb⟩
          rw [he, his, if_pos rfl, ht]
        rw [← ht]
        clear ht his
        have hq := refseq_run t t
        rw [(Sup.same_iff t t).2 rfl] at hq
        unfold sv at *
        go_wp2_with fail
        refine Calls.mono (HR.out _ _ (HBY.out.up (belT hB (belT ba (belA1 (belR _)))))) ?_
        rintro e wb ⟨rfl, bb⟩
        obtain ⟨d0, d1, d2, d3, d4, d5, d6, d7, d8, d9, d10⟩ := box11 bb
        have zz : wa.heap.size < wb.heap.size := by have := bb.size; simp at this; omega
        go_wp2
        go_roundw
        case rel => exact ⟨k + 1, by omega, by go_num, belAlloc (belT hB (belT ba (belT (belA1 (belR _)) bb))) _⟩
        case measure => simp [intOf]; omega
      | false =>
        simp only [Bool.false_eq_true, if_false]
        have HR : Hid (∀ w v, Byt w v p → Calls Try.prog 30 #[v] w fun e w' => e = .returned (.tuple #[sv Sup.zero, .bool false]) ∧ Below w.heap.size w w') := by
          intro w v hb
          refine (refsdecode_any v p w hb).mono fun e w' ⟨he, hb⟩ => ⟨?_, hb⟩
          rw [he, his]; rfl
        clear his
        have hq := refseq_run Sup.zero Sup.zero
        rw [(Sup.same_iff _ _).2 rfl] at hq
        have hqz : ∀ w, (Op.equalIn 10000 57 (.agg #[.int .i64 0, .int .i64 0, .int .i64 0, .int .i64 0, .int .i64 0, .int .i64 0, .int .i64 0, .bool false, .int .i64 0, .int .i64 0, .int .i64 0]) (.agg #[.int .i64 0, .int .i64 0, .int .i64 0, .int .i64 0, .int .i64 0, .int .i64 0, .int .i64 0, .bool false, .int .i64 0, .int .i64 0, .int .i64 0])).run Try.prog w = .ok true w := hq
        rw [show sv Sup.zero = .agg #[.int .i64 0, .int .i64 0, .int .i64 0, .int .i64 0, .int .i64 0, .int .i64 0, .int .i64 0, .bool false, .int .i64 0, .int .i64 0, .int .i64 0] from rfl] at *
        clear hq
        go_wp2_with fail
        refine Calls.mono (HR.out _ _ (HBY.out.up (belT hB (belT ba (belA1 (belR _)))))) ?_
        rintro e wb ⟨rfl, bb⟩
        obtain ⟨d0, d1, d2, d3, d4, d5, d6, d7, d8, d9, d10⟩ := box11 bb
        have zz : wa.heap.size < wb.heap.size := by have := bb.size; simp at this; omega
        go_wp2
        go_roundw
        case rel => exact ⟨k + 1, by omega, by go_num, belAlloc (belT hB (belT ba (belT (belA1 (belR _)) bb))) _⟩
        case measure => simp [intOf]; omega
    · go_wp2_with fail
      refine Calls.mono (wakes9_any _) ?_
      rintro e w10 ⟨rfl, b10⟩
      go_wp2_with fail
      go_ret
      exact ⟨rfl, belT BL (belT hB b10)⟩
end Go.Proofs.Ytgnnkglmlopldaa
