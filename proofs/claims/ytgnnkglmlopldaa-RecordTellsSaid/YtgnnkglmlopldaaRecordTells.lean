/- The walk of RecordTells (chapter 11). True at every input. -/
import Derived.Test.YtgnnkglmlopldaaRecOk
import Derived.Test.YtgnnkglmlopldaaRecO
namespace Go.Proofs.Ytgnnkglmlopldaa
open Go.RowKit C
set_option linter.unusedVariables false
set_option linter.unusedSimpArgs false
set_option maxRecDepth 100000
set_option maxHeartbeats 1000000

theorem recordTells_law (W : World) (seq : Int) (h0 : -9223372036854775808 ≤ seq ∧ seq ≤ 9223372036854775807) (lv : Value) (ll : List Int) (hl : Ints W lv ll) (hll : ll.length * 8 ≤ 140737488351232) (how : Int) (h6 : -9223372036854775808 ≤ how ∧ how ≤ 9223372036854775807) :
    Calls Try.prog 3 #[.int .i64 seq, lv, .int .i64 how] W fun e W' => e = .returned (.bool true) ∧ Below W.heap.size W W' := by
  have hof := of11_any seq how lv ll W h0 h6 hl
  have HOF := Lib.hid hof
  clear hof h0 h6 hl hll
  go_enter Try.func3, Try.ntmps3
  go_wp2_with fail
  refine Calls.mono HOF.out ?_
  rintro e w1 ⟨s, v, l, rfl, hs, HI, hl6, b1⟩
  obtain ⟨av, cv, ev, _⟩ := HI.shape
  obtain ⟨n, hn⟩ : ∃ n, n = l.length := ⟨_, rfl⟩
  rw [← hn] at ev
  subst ev
  have HN := Lib.hid hn
  have HL6 : Hid (l.length ≤ 1000) := by show _ ≤ _; omega
  clear hn hl6
  have HI := Lib.hid HI
  have HB : Hid (∀ X, Below (w1.alloc (.cells #[.int .i64 s, .slice av n cv] 25)).heap.size (w1.alloc (.cells #[.int .i64 s, .slice av n cv] 25)) X → X.cell? ⟨w1.heap.size, 0, none⟩ = some (.int .i64 s) ∧ X.cell? ⟨w1.heap.size, 1, none⟩ = some (.slice av n cv)) := fun X hX => box2 hX
  have HCK : Hid (∀ X, Below (w1.alloc (.cells #[.int .i64 s, .slice av n cv] 25)).heap.size (w1.alloc (.cells #[.int .i64 s, .slice av n cv] 25)) X → Calls Try.prog 17 #[.agg #[.int .i64 s, .slice av n cv]] X fun e w' => e = .returned (.int .i64 (rerr s l)) ∧ Below X.heap.size X w') := fun X hX => rcheck_any s _ l X hs (HI.out.up (belT (belA1 (belR _)) hX))
  cases hok : rok s l with
  | true =>
    rw [rerr_yes hok] at HCK
    have hlen4 : Hid ((renc s l).length = 4) := renc_len ((rok_iff s l).1 hok).2.1
    go_wp2_with fail
    refine Calls.mono (rencode_ok s _ l _ (HI.out.up (belA1 (belR _))) hok) ?_
    rintro e w2 ⟨v2, rfl, O2, b2⟩
    obtain ⟨a2, c2, e2, q1, q2⟩ := O2.shape
    rw [hlen4.out] at e2 q1
    subst e2
    have P2 := Lib.hid O2.parts
    clear O2
    go_wp2_with fail
    refine wp_region_held_drew (S := fun W => W.cell? ⟨w1.heap.size, 0, none⟩ = some (.int .i64 s) ∧ W.cell? ⟨w1.heap.size, 1, none⟩ = some (.slice av n cv)) (by kernel_rfl) (show World.cell? _ _ = _ ∧ World.cell? _ _ = _ from HB.out _ (by first | exact b2 | exact belDr b2)) (fun hHeld => ?_)
    refine wpAnyH_take (i := 0) (oi := _) (v := ?_) rfl (by kernel_rfl) (by kernel_rfl) (by kernel_rfl) (fun _ _ _ h => h) (Or.inl ⟨by rfl, ?_⟩) (by assumption) ?_
    rotate_left
    · intro w hSw
      (try dsimp only at hSw)
      go_simp
      try with_reducible rfl
    try simp only [Act.put, List.getElem_toArray, List.getElem_cons_zero, List.getElem_cons_succ, List.setIfInBounds_toArray, List.set_cons_zero, List.set_cons_succ]
    refine wpAnyH_take (i := 2) (oi := _) (v := ?_) rfl (by kernel_rfl) (by kernel_rfl) (by kernel_rfl) (fun _ _ _ h => h) (Or.inl ⟨by rfl, ?_⟩) (by assumption) ?_
    rotate_left
    · intro w hSw
      (try dsimp only at hSw)
      go_simp
      try with_reducible rfl
    try simp only [Act.put, List.getElem_toArray, List.getElem_cons_zero, List.getElem_cons_succ, List.setIfInBounds_toArray, List.set_cons_zero, List.set_cons_succ]
    refine wpAnyH_take (i := 1) (oi := _) (v := ?_) rfl (by kernel_rfl) (by kernel_rfl) (by kernel_rfl) (fun _ _ _ h => h) (Or.inl ⟨by rfl, ?_⟩) (by assumption) ?_
    rotate_left
    · intro w hSw
      (try dsimp only at hSw)
      go_simp
      try with_reducible rfl
    try simp only [Act.put, List.getElem_toArray, List.getElem_cons_zero, List.getElem_cons_succ, List.setIfInBounds_toArray, List.set_cons_zero, List.set_cons_succ]
    refine wpAnyH_take (i := 3) (oi := _) (v := ?_) rfl (by kernel_rfl) (by kernel_rfl) (by kernel_rfl) (fun _ _ _ h => h) (Or.inl ⟨by rfl, ?_⟩) (by assumption) ?_
    rotate_left
    · intro w hSw
      (try dsimp only at hSw)
      go_simp
      try with_reducible rfl
    try simp only [Act.put, List.getElem_toArray, List.getElem_cons_zero, List.getElem_cons_succ, List.setIfInBounds_toArray, List.set_cons_zero, List.set_cons_succ]
    refine wpAnyH_ready (rs := [4]) (by kernel_rfl) (by simp) ?_
    refine AllReadyH.cons (o := _) rfl (fun K hK => ?_) AllReadyH.nil
    go_simp
    refine Calls.mono (refof_any (.slice av n cv) l _ (HI.out.up (belT (belA1 (belR _)) (by first | exact b2 | exact belDr b2))) HL6.out) ?_
    rintro e w3 ⟨v3, rfl, I3, b3⟩
    have B3 : Below (w1.alloc (.cells #[.int .i64 s, .slice av n cv] 25)).heap.size (w1.alloc (.cells #[.int .i64 s, .slice av n cv] 25)) w3 := belT (by first | exact b2 | exact belDr b2) b3
    try go_simp
    refine hK.out _ _ (show World.cell? _ _ = _ ∧ World.cell? _ _ = _ from HB.out _ B3) (fun hHeld => ?_)
    clear hK K
    try simp only [Act.put, List.getElem_toArray, List.getElem_cons_zero, List.getElem_cons_succ, List.setIfInBounds_toArray, List.set_cons_zero, List.set_cons_succ]
    refine wpAnyH_ready (rs := [5]) (by kernel_rfl) (by simp) ?_
    refine AllReadyH.cons (o := _) rfl (fun K hK => ?_) AllReadyH.nil
    go_simp
    refine Calls.mono (refrec_ok s v3 l _ (by first | exact I3 | exact I3.up (belDr (belR _))) hok) ?_
    rintro e w4 ⟨v4, rfl, O4, b4⟩
    have B4 : Below (w1.alloc (.cells #[.int .i64 s, .slice av n cv] 25)).heap.size (w1.alloc (.cells #[.int .i64 s, .slice av n cv] 25)) w4 := belT (by first | exact B3 | exact belDr B3) b4
    try go_simp
    refine hK.out _ _ (show World.cell? _ _ = _ ∧ World.cell? _ _ = _ from HB.out _ B4) (fun hHeld => ?_)
    clear hK K
    try simp only [Act.put, List.getElem_toArray, List.getElem_cons_zero, List.getElem_cons_succ, List.setIfInBounds_toArray, List.set_cons_zero, List.set_cons_succ]
    refine wpAnyH_take (i := 6) (oi := _) (v := ?_) rfl (by kernel_rfl) (by kernel_rfl) (by kernel_rfl) (fun _ _ _ h => h) (Or.inl ⟨by rfl, ?_⟩) (by assumption) ?_
    rotate_left
    · intro w hSw
      (try dsimp only at hSw)
      go_simp
      try with_reducible rfl
    try simp only [Act.put, List.getElem_toArray, List.getElem_cons_zero, List.getElem_cons_succ, List.setIfInBounds_toArray, List.set_cons_zero, List.set_cons_succ]
    refine wpAnyH_take (i := 7) (oi := _) (v := ?_) rfl (by kernel_rfl) (by kernel_rfl) (by kernel_rfl) (fun _ _ _ h => h) (Or.inl ⟨by rfl, ?_⟩) (by assumption) ?_
    rotate_left
    · intro w hSw
      (try dsimp only at hSw)
      go_simp
      try with_reducible rfl
    try simp only [Act.put, List.getElem_toArray, List.getElem_cons_zero, List.getElem_cons_succ, List.setIfInBounds_toArray, List.set_cons_zero, List.set_cons_succ]
    refine wpAnyH_take (i := 8) (oi := _) (v := ?_) rfl (by kernel_rfl) (by kernel_rfl) (by kernel_rfl) (fun _ _ _ h => h) (Or.inl ⟨by rfl, ?_⟩) (by assumption) ?_
    rotate_left
    · intro w hSw
      (try dsimp only at hSw)
      go_simp
      try with_reducible rfl
    try simp only [Act.put, List.getElem_toArray, List.getElem_cons_zero, List.getElem_cons_succ, List.setIfInBounds_toArray, List.set_cons_zero, List.set_cons_succ]
    refine wpAnyH_take (i := 9) (oi := _) (v := ?_) rfl (by kernel_rfl) (by kernel_rfl) (by kernel_rfl) (fun _ _ _ h => h) (Or.inl ⟨by rfl, ?_⟩) (by assumption) ?_
    rotate_left
    · intro w hSw
      (try dsimp only at hSw)
      go_simp
      try with_reducible rfl
    try simp only [Act.put, List.getElem_toArray, List.getElem_cons_zero, List.getElem_cons_succ, List.setIfInBounds_toArray, List.set_cons_zero, List.set_cons_succ]
    refine wpAnyH_take (i := 10) (oi := _) (v := ?_) rfl (by kernel_rfl) (by kernel_rfl) (by kernel_rfl) (fun _ _ _ h => h) (Or.inl ⟨by rfl, ?_⟩) (by assumption) ?_
    rotate_left
    · intro w hSw
      (try dsimp only at hSw)
      go_simp
      try with_reducible rfl
    try simp only [Act.put, List.getElem_toArray, List.getElem_cons_zero, List.getElem_cons_succ, List.setIfInBounds_toArray, List.set_cons_zero, List.set_cons_succ]
    refine wpAnyH_done (by kernel_rfl) ?_ _
    have BW : Below w2.heap.size w2 w4 := belT (by first | exact b3 | exact belT (belDr (belR _)) b3) (by first | exact b4 | exact belT (belDr (belR _)) b4)
    skip
    have P2' := Lib.hid (P2.out.up (show Below w2.heap.size w2 w4 from BW))
    obtain ⟨a4, c4, e4, r1, r2⟩ := O4.shape
    rw [hlen4.out] at e4 r1
    subst e4
    have P4 := Lib.hid O4.parts
    clear O4 P2
    obtain ⟨x0, x1⟩ := HB.out _ B4
    go_wp2_with (go_at_call 17; refine Calls.mono (HCK.out _ B4) ?_; rintro e w5 ⟨rfl, b5⟩)
    go_loopw [52] (fun i X => ∃ k : Nat, k ≤ 4 ∧ i = .int .i64 k ∧ Below w5.heap.size w5 X) (fun i _ => 4 - (intOf i).toNat)
    case atStart => exact ⟨0, by omega, rfl, belR _⟩
    case round =>
      obtain ⟨k, hk, rfl, B⟩ := hrel
      by_cases hlt : k < 4
      · obtain ⟨b', o', c', p', rfl, hc1, hp1, hy1⟩ := (P2'.out.up (belT b5 B)).get (k := k) (by rw [hlen4.out]; exact hlt)
        obtain ⟨b'', o'', c'', p'', rfl, hc2, hp2, hy2⟩ := (P4.out.up (belT b5 B)).get (k := k) (by rw [hlen4.out]; exact hlt)
        have hpp : p'' = p' := by have := hp1.out; rw [hp2.out] at this; exact Option.some.inj this
        subst hpp
        have hki : (k : Int) < 4 := by omega
        have hki0 : (0 : Int) ≤ (k : Int) := by omega
        obtain ⟨au, cu, rfl, _, _⟩ := hy1.shape
        obtain ⟨aw, cw, rfl, _, _⟩ := hy2.shape
        have HY1 := Lib.hid hy1
        have HY2 := Lib.hid hy2
        clear hy1 hy2
        go_wp2_with fail
        refine wp_region_held_drew (S := fun X => X.cell? ⟨b', o' + k, none⟩ = some (.slice au p''.length cu) ∧ X.cell? ⟨b'', o'' + k, none⟩ = some (.slice aw p''.length cw)) (by kernel_rfl) (show World.cell? _ _ = _ ∧ World.cell? _ _ = _ from ⟨hc1, hc2⟩) (fun hHeld => ?_)
        refine wpAnyH_take (i := 0) (oi := _) (v := ?_) rfl (by kernel_rfl) (by kernel_rfl) (by kernel_rfl) (fun _ _ _ h => h) (Or.inl ⟨by rfl, ?_⟩) (by assumption) ?_
        rotate_left
        · intro w hSw
          (try dsimp only at hSw)
          go_simp
          try with_reducible rfl
        try simp only [Act.put, List.getElem_toArray, List.getElem_cons_zero, List.getElem_cons_succ, List.setIfInBounds_toArray, List.set_cons_zero, List.set_cons_succ]
        refine wpAnyH_take (i := 1) (oi := _) (v := ?_) rfl (by kernel_rfl) (by kernel_rfl) (by kernel_rfl) (fun _ _ _ h => h) (Or.inl ⟨by rfl, ?_⟩) (by assumption) ?_
        rotate_left
        · intro w hSw
          (try dsimp only at hSw)
          go_simp
          try with_reducible rfl
        try simp only [Act.put, List.getElem_toArray, List.getElem_cons_zero, List.getElem_cons_succ, List.setIfInBounds_toArray, List.set_cons_zero, List.set_cons_succ]
        refine wpAnyH_take (i := 4) (oi := _) (v := ?_) rfl (by kernel_rfl) (by kernel_rfl) (by kernel_rfl) (fun _ _ _ h => h) (Or.inl ⟨by rfl, ?_⟩) (by assumption) ?_
        rotate_left
        · intro w hSw
          (try dsimp only at hSw)
          go_simp
          try with_reducible rfl
        try simp only [Act.put, List.getElem_toArray, List.getElem_cons_zero, List.getElem_cons_succ, List.setIfInBounds_toArray, List.set_cons_zero, List.set_cons_succ]
        refine wpAnyH_take (i := 5) (oi := _) (v := ?_) rfl (by kernel_rfl) (by kernel_rfl) (by kernel_rfl) (fun _ _ _ h => h) (Or.inl ⟨by rfl, ?_⟩) (by assumption) ?_
        rotate_left
        · intro w hSw
          (try dsimp only at hSw)
          go_simp
          try with_reducible rfl
        try simp only [Act.put, List.getElem_toArray, List.getElem_cons_zero, List.getElem_cons_succ, List.setIfInBounds_toArray, List.set_cons_zero, List.set_cons_succ]
        refine wpAnyH_take (i := 2) (oi := _) (v := ?_) rfl (by kernel_rfl) (by kernel_rfl) (by kernel_rfl) (fun _ _ _ h => h) (Or.inl ⟨by rfl, ?_⟩) (by assumption) ?_
        rotate_left
        · intro w hSw
          (try dsimp only at hSw)
          go_simp
          try with_reducible rfl
        try simp only [Act.put, List.getElem_toArray, List.getElem_cons_zero, List.getElem_cons_succ, List.setIfInBounds_toArray, List.set_cons_zero, List.set_cons_succ]
        refine wpAnyH_take (i := 6) (oi := _) (v := ?_) rfl (by kernel_rfl) (by kernel_rfl) (by kernel_rfl) (fun _ _ _ h => h) (Or.inl ⟨by rfl, ?_⟩) (by assumption) ?_
        rotate_left
        · intro w hSw
          (try dsimp only at hSw)
          go_simp
          try with_reducible rfl
        try simp only [Act.put, List.getElem_toArray, List.getElem_cons_zero, List.getElem_cons_succ, List.setIfInBounds_toArray, List.set_cons_zero, List.set_cons_succ]
        refine wpAnyH_take (i := 3) (oi := _) (v := ?_) rfl (by kernel_rfl) (by kernel_rfl) (by kernel_rfl) (fun _ _ _ h => h) (Or.inl ⟨by rfl, ?_⟩) (by assumption) ?_
        rotate_left
        · intro w hSw
          (try dsimp only at hSw)
          go_simp
          try with_reducible rfl
        try simp only [Act.put, List.getElem_toArray, List.getElem_cons_zero, List.getElem_cons_succ, List.setIfInBounds_toArray, List.set_cons_zero, List.set_cons_succ]
        refine wpAnyH_take (i := 7) (oi := _) (v := ?_) rfl (by kernel_rfl) (by kernel_rfl) (by kernel_rfl) (fun _ _ _ h => h) (Or.inl ⟨by rfl, ?_⟩) (by assumption) ?_
        rotate_left
        · intro w hSw
          (try dsimp only at hSw)
          go_simp
          try with_reducible rfl
        try simp only [Act.put, List.getElem_toArray, List.getElem_cons_zero, List.getElem_cons_succ, List.setIfInBounds_toArray, List.set_cons_zero, List.set_cons_succ]
        refine wpAnyH_ready (rs := [8]) (by kernel_rfl) (by simp) ?_
        refine AllReadyH.cons (o := _) rfl (fun K hK => ?_) AllReadyH.nil
        go_simp
        refine Calls.mono (same_any _ _ p'' p'' _ (by first | exact HY1.out | exact HY1.out.drew) (by first | exact HY2.out | exact HY2.out.drew)) ?_
        rw [decide_eq_true rfl]
        rintro e w6 ⟨rfl, d6⟩
        have B6 : Below w5.heap.size w5 w6 := belT (by first | exact B | exact belDr B) (d6.below _)
        try go_simp
        refine hK.out _ _ (show World.cell? _ _ = _ ∧ World.cell? _ _ = _ from ⟨cell_fr hc1 (Fr.of_below (S := fun _ => False) (belT (by first | exact belR _ | exact belDr (belR _)) (d6.below _))) id, cell_fr hc2 (Fr.of_below (S := fun _ => False) (belT (by first | exact belR _ | exact belDr (belR _)) (d6.below _))) id⟩) (fun hHeld => ?_)
        clear hK K
        try simp only [Act.put, List.getElem_toArray, List.getElem_cons_zero, List.getElem_cons_succ, List.setIfInBounds_toArray, List.set_cons_zero, List.set_cons_succ]
        refine wpAnyH_take (i := 9) (oi := _) (v := ?_) rfl (by kernel_rfl) (by kernel_rfl) (by kernel_rfl) (fun _ _ _ h => h) (Or.inl ⟨by rfl, ?_⟩) (by assumption) ?_
        rotate_left
        · intro w hSw
          (try dsimp only at hSw)
          go_simp
          try with_reducible rfl
        try simp only [Act.put, List.getElem_toArray, List.getElem_cons_zero, List.getElem_cons_succ, List.setIfInBounds_toArray, List.set_cons_zero, List.set_cons_succ]
        refine wpAnyH_done (by kernel_rfl) ?_ _
        go_wp2
        go_roundw
        case rel => exact ⟨k + 1, by omega, by go_num, B6⟩
        case measure => simp [intOf]; omega
      · go_wp2_with fail
        refine Calls.mono (wakes11_any _) ?_
        rintro e w6 ⟨rfl, b6⟩
        go_wp2_with fail
        go_ret
        exact ⟨rfl, belT b1 (belT (belA1 (belR _)) (belT B4 (belT b5 (belT B b6))))⟩
  | false =>
    rw [rerr_no hok] at HCK
    go_wp2_with fail
    refine Calls.mono (rencode_no s _ l _ hs (HI.out.up (belA1 (belR _))) hok) ?_
    rintro e w2 ⟨rfl, b2⟩
    go_wp2_with fail
    refine wp_region_held_drew (S := fun W => W.cell? ⟨w1.heap.size, 0, none⟩ = some (.int .i64 s) ∧ W.cell? ⟨w1.heap.size, 1, none⟩ = some (.slice av n cv)) (by kernel_rfl) (show World.cell? _ _ = _ ∧ World.cell? _ _ = _ from HB.out _ (by first | exact b2 | exact belDr b2)) (fun hHeld => ?_)
    refine wpAnyH_take (i := 0) (oi := _) (v := ?_) rfl (by kernel_rfl) (by kernel_rfl) (by kernel_rfl) (fun _ _ _ h => h) (Or.inl ⟨by rfl, ?_⟩) (by assumption) ?_
    rotate_left
    · intro w hSw
      (try dsimp only at hSw)
      go_simp
      try with_reducible rfl
    try simp only [Act.put, List.getElem_toArray, List.getElem_cons_zero, List.getElem_cons_succ, List.setIfInBounds_toArray, List.set_cons_zero, List.set_cons_succ]
    refine wpAnyH_take (i := 2) (oi := _) (v := ?_) rfl (by kernel_rfl) (by kernel_rfl) (by kernel_rfl) (fun _ _ _ h => h) (Or.inl ⟨by rfl, ?_⟩) (by assumption) ?_
    rotate_left
    · intro w hSw
      (try dsimp only at hSw)
      go_simp
      try with_reducible rfl
    try simp only [Act.put, List.getElem_toArray, List.getElem_cons_zero, List.getElem_cons_succ, List.setIfInBounds_toArray, List.set_cons_zero, List.set_cons_succ]
    refine wpAnyH_take (i := 1) (oi := _) (v := ?_) rfl (by kernel_rfl) (by kernel_rfl) (by kernel_rfl) (fun _ _ _ h => h) (Or.inl ⟨by rfl, ?_⟩) (by assumption) ?_
    rotate_left
    · intro w hSw
      (try dsimp only at hSw)
      go_simp
      try with_reducible rfl
    try simp only [Act.put, List.getElem_toArray, List.getElem_cons_zero, List.getElem_cons_succ, List.setIfInBounds_toArray, List.set_cons_zero, List.set_cons_succ]
    refine wpAnyH_take (i := 3) (oi := _) (v := ?_) rfl (by kernel_rfl) (by kernel_rfl) (by kernel_rfl) (fun _ _ _ h => h) (Or.inl ⟨by rfl, ?_⟩) (by assumption) ?_
    rotate_left
    · intro w hSw
      (try dsimp only at hSw)
      go_simp
      try with_reducible rfl
    try simp only [Act.put, List.getElem_toArray, List.getElem_cons_zero, List.getElem_cons_succ, List.setIfInBounds_toArray, List.set_cons_zero, List.set_cons_succ]
    refine wpAnyH_ready (rs := [4]) (by kernel_rfl) (by simp) ?_
    refine AllReadyH.cons (o := _) rfl (fun K hK => ?_) AllReadyH.nil
    go_simp
    refine Calls.mono (refof_any (.slice av n cv) l _ (HI.out.up (belT (belA1 (belR _)) (by first | exact b2 | exact belDr b2))) HL6.out) ?_
    rintro e w3 ⟨v3, rfl, I3, b3⟩
    have B3 : Below (w1.alloc (.cells #[.int .i64 s, .slice av n cv] 25)).heap.size (w1.alloc (.cells #[.int .i64 s, .slice av n cv] 25)) w3 := belT (by first | exact b2 | exact belDr b2) b3
    try go_simp
    refine hK.out _ _ (show World.cell? _ _ = _ ∧ World.cell? _ _ = _ from HB.out _ B3) (fun hHeld => ?_)
    clear hK K
    try simp only [Act.put, List.getElem_toArray, List.getElem_cons_zero, List.getElem_cons_succ, List.setIfInBounds_toArray, List.set_cons_zero, List.set_cons_succ]
    refine wpAnyH_ready (rs := [5]) (by kernel_rfl) (by simp) ?_
    refine AllReadyH.cons (o := _) rfl (fun K hK => ?_) AllReadyH.nil
    go_simp
    refine Calls.mono (refrec_no s v3 l _ hs (by first | exact I3 | exact I3.up (belDr (belR _))) hok) ?_
    rintro e w4 ⟨rfl, b4⟩
    have B4 : Below (w1.alloc (.cells #[.int .i64 s, .slice av n cv] 25)).heap.size (w1.alloc (.cells #[.int .i64 s, .slice av n cv] 25)) w4 := belT (by first | exact B3 | exact belDr B3) b4
    try go_simp
    refine hK.out _ _ (show World.cell? _ _ = _ ∧ World.cell? _ _ = _ from HB.out _ B4) (fun hHeld => ?_)
    clear hK K
    try simp only [Act.put, List.getElem_toArray, List.getElem_cons_zero, List.getElem_cons_succ, List.setIfInBounds_toArray, List.set_cons_zero, List.set_cons_succ]
    refine wpAnyH_take (i := 6) (oi := _) (v := ?_) rfl (by kernel_rfl) (by kernel_rfl) (by kernel_rfl) (fun _ _ _ h => h) (Or.inl ⟨by rfl, ?_⟩) (by assumption) ?_
    rotate_left
    · intro w hSw
      (try dsimp only at hSw)
      go_simp
      try with_reducible rfl
    try simp only [Act.put, List.getElem_toArray, List.getElem_cons_zero, List.getElem_cons_succ, List.setIfInBounds_toArray, List.set_cons_zero, List.set_cons_succ]
    refine wpAnyH_take (i := 7) (oi := _) (v := ?_) rfl (by kernel_rfl) (by kernel_rfl) (by kernel_rfl) (fun _ _ _ h => h) (Or.inl ⟨by rfl, ?_⟩) (by assumption) ?_
    rotate_left
    · intro w hSw
      (try dsimp only at hSw)
      go_simp
      try with_reducible rfl
    try simp only [Act.put, List.getElem_toArray, List.getElem_cons_zero, List.getElem_cons_succ, List.setIfInBounds_toArray, List.set_cons_zero, List.set_cons_succ]
    refine wpAnyH_take (i := 8) (oi := _) (v := ?_) rfl (by kernel_rfl) (by kernel_rfl) (by kernel_rfl) (fun _ _ _ h => h) (Or.inl ⟨by rfl, ?_⟩) (by assumption) ?_
    rotate_left
    · intro w hSw
      (try dsimp only at hSw)
      go_simp
      try with_reducible rfl
    try simp only [Act.put, List.getElem_toArray, List.getElem_cons_zero, List.getElem_cons_succ, List.setIfInBounds_toArray, List.set_cons_zero, List.set_cons_succ]
    refine wpAnyH_take (i := 9) (oi := _) (v := ?_) rfl (by kernel_rfl) (by kernel_rfl) (by kernel_rfl) (fun _ _ _ h => h) (Or.inl ⟨by rfl, ?_⟩) (by assumption) ?_
    rotate_left
    · intro w hSw
      (try dsimp only at hSw)
      go_simp
      try with_reducible rfl
    try simp only [Act.put, List.getElem_toArray, List.getElem_cons_zero, List.getElem_cons_succ, List.setIfInBounds_toArray, List.set_cons_zero, List.set_cons_succ]
    refine wpAnyH_take (i := 10) (oi := _) (v := ?_) rfl (by kernel_rfl) (by kernel_rfl) (by kernel_rfl) (fun _ _ _ h => h) (Or.inl ⟨by rfl, ?_⟩) (by assumption) ?_
    rotate_left
    · intro w hSw
      (try dsimp only at hSw)
      go_simp
      try with_reducible rfl
    try simp only [Act.put, List.getElem_toArray, List.getElem_cons_zero, List.getElem_cons_succ, List.setIfInBounds_toArray, List.set_cons_zero, List.set_cons_succ]
    refine wpAnyH_done (by kernel_rfl) ?_ _
    skip
    obtain ⟨x0, x1⟩ := HB.out _ B4
    go_wp2_with (go_at_call 17; refine Calls.mono (HCK.out _ B4) ?_; rintro e w5 ⟨rfl, b5⟩)
    go_loopw [52] (fun i X => i = .int .i64 0 ∧ X = w5) (fun i _ => 0)
    case atStart => exact ⟨rfl, rfl⟩
    case round =>
      obtain ⟨rfl, rfl⟩ := hrel
      go_wp2_with fail
      refine Calls.mono (wakes11_any _) ?_
      rintro e w6 ⟨rfl, b6⟩
      go_wp2_with fail
      go_ret
      exact ⟨rfl, belT b1 (belT (belA1 (belR _)) (belT B4 (belT b5 b6)))⟩
end Go.Proofs.Ytgnnkglmlopldaa
