/- The walk of RecordDecodes (chapter 11). True at every input. -/
import Derived.Test.YtgnnkglmlopldaaRecRD
import Derived.Test.YtgnnkglmlopldaaRecO
import Derived.Test.YtgnnkglmlopldaaRowB
import Derived.Deep.CutBlock
namespace Go.Proofs.Ytgnnkglmlopldaa
open Go.RowKit C
set_option linter.unusedVariables false
set_option linter.unusedSimpArgs false
set_option maxRecDepth 100000
set_option maxHeartbeats 2000000

theorem kw1 {k n m : Nat} (h : k < n) (e : n = m) (hm : m ≤ 1000) : wrap64 ((k : Int) + 1) = ((k + 1 : Nat) : Int) := by unfold wrap64; omega

theorem kw2 {k n m : Nat} (h : k < n) (e : n = m) (hm : m ≤ 1000) : n - (intOf (Value.int .i64 (wrap64 ((k : Int) + 1)))).toNat < n - (intOf (Value.int .i64 (k : Int))).toNat := by rw [kw1 h e hm]; simp only [intOf, Int.toNat_natCast]; omega

theorem tmod60'' (n : Int) : i64b (n.tmod 60) := by
  unfold i64b
  rw [tmod_cases]
  split <;> omega
/-- four sectors of 32 bytes, owned -/
def Good4 (X : World) (base : Nat) (v : Value) : Prop := ∃ ls : List (List Nat), ls.length = 4 ∧ (∀ p ∈ ls, p.length = 32) ∧ OwnD X base v ls (fun _ => False)
def Row4 (X : World) (base : Nat) (v : Value) : Prop := ∃ ls : List (List Nat), ls.length = 4 ∧ (∀ p ∈ ls, p.length = 32) ∧ RowB X base v ls
def RowP (X : World) (v : Value) : Prop := ∃ ls : List (List Nat), Parts X v ls
theorem refrec_both (s : Int) (v : Value) (l : List RI) (w : World) (hs : i64b s) (h : Items w v l) :
    Calls Try.prog 15 #[.int .i64 s, v] w fun e w' => ∃ xv ok, e = .returned (.tuple #[xv, .bool ok]) ∧ Below w.heap.size w w' ∧ (ok = true → Good4 w' w.heap.size xv) ∧ (ok = false → xv = .slice none 0 0) := by
  cases hok : rok s l with
  | true =>
    refine (refrec_ok s v l w h hok).mono ?_
    rintro e w' ⟨v', rfl, O, b⟩
    exact ⟨v', true, rfl, b, fun _ => ⟨_, renc_len ((rok_iff s l).1 hok).2.1, renc_32 ((rok_iff s l).1 hok).2.1 (rok_fine hok), O⟩, fun h => by cases h⟩
  | false =>
    refine (refrec_no s v l w hs h hok).mono ?_
    rintro e w' ⟨rfl, b⟩
    exact ⟨_, false, rfl, b, (fun h => by cases h), (fun _ => rfl)⟩
theorem and31 (a : Int) (h : i64b a) : ∃ m : Nat, bits .and .i64 a 31 = (m : Int) ∧ m ≤ 31 := by
  have hle : (BitVec.ofInt 64 a &&& BitVec.ofInt 64 31).toNat ≤ 31 := by
    rw [BitVec.toNat_and]
    exact Nat.le_trans Nat.and_le_right (by decide)
  refine ⟨(BitVec.ofInt 64 a &&& BitVec.ofInt 64 31).toNat, ?_, hle⟩
  show IntKind.i64.wrap ((BitVec.ofInt 64 a &&& BitVec.ofInt 64 31).toNat : Int) = _
  rw [IntKind.wrap_i64]
  omega
theorem recordDecodes_law (W : World) (seq : Int) (h0 : -9223372036854775808 ≤ seq ∧ seq ≤ 9223372036854775807) (lv : Value) (ll : List Int) (hl : Ints W lv ll) (hll : ll.length * 8 ≤ 140737488351232) (how : Int) (h6 : -9223372036854775808 ≤ how ∧ how ≤ 9223372036854775807) (part : Int) (h7 : -9223372036854775808 ≤ part ∧ part ≤ 9223372036854775807) (at' : Int) (h8 : -9223372036854775808 ≤ at' ∧ at' ≤ 9223372036854775807) (c : Int) (h9 : (0 : Int) ≤ c ∧ c ≤ 255) (sealed' : Bool) :
    Calls Try.prog 11 #[.int .i64 seq, lv, .int .i64 how, .int .i64 part, .int .i64 at', .int .u8 c, .bool sealed'] W fun e W' => e = .returned (.bool true) ∧ Below W.heap.size W W' := by
  have HOF := Lib.hid (of11_any seq (how.tmod 60) lv ll W h0 (tmod60'' how) hl)
  have t60 := tmod60'' how
  have HPT := Lib.hid (tdiv_in (show i64b part from h7))
  have HAT := Lib.hid (show i64b at' from h8)
  obtain ⟨t60a, t60b⟩ := t60
  obtain ⟨h6a, h6b⟩ := h6
  obtain ⟨h7a, h7b⟩ := h7
  obtain ⟨h8a, h8b⟩ := h8
  obtain ⟨h9a, h9b⟩ := h9
  obtain ⟨cc, rfl⟩ := Int.eq_ofNat_of_zero_le h9a
  have hcc : cc < 256 := by omega
  obtain ⟨j0, hj, hy0, hy1, hy2⟩ := info_parts uint8_info
  obtain ⟨i0, hi, hz0, hz1, hz2⟩ := info_parts parts_info
  clear h0 hl hll
  go_enter Try.func11, Try.ntmps11
  go_wp2_with fail
  refine Calls.mono HOF.out ?_
  rintro e w1 ⟨s, v, l, rfl, hs, HI, hl6, b1⟩
  obtain ⟨av, cv, ev, _⟩ := HI.shape
  obtain ⟨n, hn⟩ : ∃ n, n = l.length := ⟨_, rfl⟩
  rw [← hn] at ev
  subst ev
  have HL6 : Hid (l.length ≤ 1000) := by show _ ≤ _; omega
  clear hn hl6
  have HI := Lib.hid HI
  go_wp2_with fail
  obtain ⟨w0, hw0⟩ : ∃ w0, w0 = w1.alloc (.cells #[.int .i64 s, .slice av n cv] 25) := ⟨_, rfl⟩
  rw [← hw0]
  have HK : Hid (∀ X, Below w0.heap.size w0 X → X.cell? ⟨w1.heap.size, 0, none⟩ = some (.int .i64 s) ∧ X.cell? ⟨w1.heap.size, 1, none⟩ = some (.slice av n cv)) := by
    intro X hX
    rw [hw0] at hX
    exact box2 hX
  have B0 : Below w1.heap.size w1 w0 := by rw [hw0]; exact belA1 (belR _)
  have B01 : Below W.heap.size W w0 := belT b1 B0
  clear hw0
  refine wp_region_held_drew (S := fun X => X.cell? ⟨w1.heap.size, 0, none⟩ = some (.int .i64 s) ∧ X.cell? ⟨w1.heap.size, 1, none⟩ = some (.slice av n cv)) (by kernel_rfl) (show World.cell? _ _ = _ ∧ World.cell? _ _ = _ from HK.out _ (by iterate 8 try (first | assumption | exact belR _ | apply belDr | apply belAlloc))) (fun hHeld => ?_)
  refine wpAnyH_take (i := 0) (oi := _) (v := ?_) rfl (by kernel_rfl) (by kernel_rfl) (by kernel_rfl) (fun _ _ _ h => h) (Or.inl ⟨by rfl, ?_⟩) (by assumption) ?_
  rotate_left
  · intro w hSw
    (try dsimp only at hSw)
    go_simp
    try with_reducible rfl
  try simp only [Act.put, List.getElem_toArray, List.getElem_cons_zero, List.getElem_cons_succ, List.setIfInBounds_toArray, List.set_cons_zero, List.set_cons_succ]
  refine wpAnyH_take (i := 2) (oi := _) (v := ?_) rfl (by kernel_rfl) (by kernel_rfl) (by kernel_rfl) (fun _ _ _ h => h) (Or.inl ⟨by rfl, ?_⟩) (by assumption) ?_
  rotate_left
  · intro w hSw
    (try dsimp only at hSw)
    go_simp
    try with_reducible rfl
  try simp only [Act.put, List.getElem_toArray, List.getElem_cons_zero, List.getElem_cons_succ, List.setIfInBounds_toArray, List.set_cons_zero, List.set_cons_succ]
  refine wpAnyH_take (i := 1) (oi := _) (v := ?_) rfl (by kernel_rfl) (by kernel_rfl) (by kernel_rfl) (fun _ _ _ h => h) (Or.inl ⟨by rfl, ?_⟩) (by assumption) ?_
  rotate_left
  · intro w hSw
    (try dsimp only at hSw)
    go_simp
    try with_reducible rfl
  try simp only [Act.put, List.getElem_toArray, List.getElem_cons_zero, List.getElem_cons_succ, List.setIfInBounds_toArray, List.set_cons_zero, List.set_cons_succ]
  refine wpAnyH_take (i := 3) (oi := _) (v := ?_) rfl (by kernel_rfl) (by kernel_rfl) (by kernel_rfl) (fun _ _ _ h => h) (Or.inl ⟨by rfl, ?_⟩) (by assumption) ?_
  rotate_left
  · intro w hSw
    (try dsimp only at hSw)
    go_simp
    try with_reducible rfl
  try simp only [Act.put, List.getElem_toArray, List.getElem_cons_zero, List.getElem_cons_succ, List.setIfInBounds_toArray, List.set_cons_zero, List.set_cons_succ]
  refine wpAnyH_ready (rs := [4]) (by kernel_rfl) (by simp) ?_
  refine AllReadyH.cons (o := _) rfl (fun K hK => ?_) AllReadyH.nil
  go_simp
  refine Calls.mono (refof_any (.slice av n cv) l _ (HI.out.up (belT B0 (by iterate 8 try (first | assumption | exact belR _ | apply belDr | apply belAlloc)))) HL6.out) ?_
  rintro e w3 ⟨v3, rfl, I3, b3⟩
  have B3 : Below w0.heap.size w0 w3 := belT (by iterate 8 try (first | assumption | exact belR _ | apply belDr | apply belAlloc)) b3
  try go_simp
  refine hK.out _ _ (show World.cell? _ _ = _ ∧ World.cell? _ _ = _ from HK.out _ B3) (fun hHeld => ?_)
  clear hK K
  try simp only [Act.put, List.getElem_toArray, List.getElem_cons_zero, List.getElem_cons_succ, List.setIfInBounds_toArray, List.set_cons_zero, List.set_cons_succ]
  refine wpAnyH_ready (rs := [5]) (by kernel_rfl) (by simp) ?_
  refine AllReadyH.cons (o := _) rfl (fun K hK => ?_) AllReadyH.nil
  go_simp
  refine Calls.mono (refrec_both s v3 l _ hs (by first | exact I3 | exact I3.up (belDr (belR _)))) ?_
  rintro e w4 ⟨xv, ok, rfl, b4, hok1, hok0⟩
  have B4 : Below w0.heap.size w0 w4 := belT (by first | exact B3 | exact belDr B3) b4
  try go_simp
  refine hK.out _ _ (show World.cell? _ _ = _ ∧ World.cell? _ _ = _ from HK.out _ B4) (fun hHeld => ?_)
  clear hK K
  try simp only [Act.put, List.getElem_toArray, List.getElem_cons_zero, List.getElem_cons_succ, List.setIfInBounds_toArray, List.set_cons_zero, List.set_cons_succ]
  refine wpAnyH_take (i := 6) (oi := _) (v := ?_) rfl (by kernel_rfl) (by kernel_rfl) (by kernel_rfl) (fun _ _ _ h => h) (Or.inl ⟨by rfl, ?_⟩) (by assumption) ?_
  rotate_left
  · intro w hSw
    (try dsimp only at hSw)
    go_simp
    try with_reducible rfl
  try simp only [Act.put, List.getElem_toArray, List.getElem_cons_zero, List.getElem_cons_succ, List.setIfInBounds_toArray, List.set_cons_zero, List.set_cons_succ]
  refine wpAnyH_take (i := 7) (oi := _) (v := ?_) rfl (by kernel_rfl) (by kernel_rfl) (by kernel_rfl) (fun _ _ _ h => h) (Or.inl ⟨by rfl, ?_⟩) (by assumption) ?_
  rotate_left
  · intro w hSw
    (try dsimp only at hSw)
    go_simp
    try with_reducible rfl
  try simp only [Act.put, List.getElem_toArray, List.getElem_cons_zero, List.getElem_cons_succ, List.setIfInBounds_toArray, List.set_cons_zero, List.set_cons_succ]
  refine wpAnyH_take (i := 8) (oi := _) (v := ?_) rfl (by kernel_rfl) (by kernel_rfl) (by kernel_rfl) (fun _ _ _ h => h) (Or.inl ⟨by rfl, ?_⟩) (by assumption) ?_
  rotate_left
  · intro w hSw
    (try dsimp only at hSw)
    go_simp
    try with_reducible rfl
  try simp only [Act.put, List.getElem_toArray, List.getElem_cons_zero, List.getElem_cons_succ, List.setIfInBounds_toArray, List.set_cons_zero, List.set_cons_succ]
  refine wpAnyH_take (i := 9) (oi := _) (v := ?_) rfl (by kernel_rfl) (by kernel_rfl) (by kernel_rfl) (fun _ _ _ h => h) (Or.inl ⟨by rfl, ?_⟩) (by assumption) ?_
  rotate_left
  · intro w hSw
    (try dsimp only at hSw)
    go_simp
    try with_reducible rfl
  try simp only [Act.put, List.getElem_toArray, List.getElem_cons_zero, List.getElem_cons_succ, List.setIfInBounds_toArray, List.set_cons_zero, List.set_cons_succ]
  refine wpAnyH_take (i := 10) (oi := _) (v := ?_) rfl (by kernel_rfl) (by kernel_rfl) (by kernel_rfl) (fun _ _ _ h => h) (Or.inl ⟨by rfl, ?_⟩) (by assumption) ?_
  rotate_left
  · intro w hSw
    (try dsimp only at hSw)
    go_simp
    try with_reducible rfl
  try simp only [Act.put, List.getElem_toArray, List.getElem_cons_zero, List.getElem_cons_succ, List.setIfInBounds_toArray, List.set_cons_zero, List.set_cons_succ]
  refine wpAnyH_done (by kernel_rfl) ?_ _
  skip
  clear hok0
  have HOK1 := Lib.hid hok1
  clear hok1
  go_upto_if 40 with (fail)
  go_cut [16] from 41 (fun xv X => Hid (Good4 X w0.heap.size xv) ∧ Below w0.heap.size w0 X)
  case first =>
    cases ok with
    | true =>
      go_wp2_with fail
      have O8 : Hid (Good4 w4 w0.heap.size xv) ∧ Below w0.heap.size w0 w4 := by
        obtain ⟨ls, q1, q2, q3⟩ := HOK1.out (by first | trivial | rfl)
        exact ⟨Lib.hid ⟨ls, q1, q2, q3.mono B3.size (fun _ _ h => h)⟩, B4⟩
      go_meet
      case rel => exact O8
    | false =>
      go_wp2_with fail
      refine wp_region_held_drew (S := fun _ => True) (by kernel_rfl) trivial (fun hHeld => ?_)
      refine wpAnyH_ready (rs := [0, 1, 2, 3]) (by kernel_rfl) (by simp) ?_
      refine AllReadyH.cons (o := _) rfl (fun K hK => ?_) (AllReadyH.cons (o := _) rfl (fun K hK => ?_) (AllReadyH.cons (o := _) rfl (fun K hK => ?_) (AllReadyH.cons (o := _) rfl (fun K hK => ?_) AllReadyH.nil)))
      · rw [if_pos (by rfl)]
        refine wp_make_bytes _ _ 37 rfl j0 Try.underlying37 hj hy0 hy1 hy2 .i64 .i64 32 rfl rfl (by decide) ?_
        intro wm0 OM0 bm0
        have dm0 : Below w0.heap.size w0 wm0 := belT (belDr B4) bm0
        have sm0 : ∃ g, g = w4.heap.size ∧ Own wm0 g (.slice (some ⟨g, 0, none⟩) 32 32) zero32 ∧ g < wm0.heap.size ∧ w4.heap.size ≤ g := ⟨w4.heap.size, rfl, OM0, OM0.lt _ rfl, Nat.le_refl _⟩
        obtain ⟨g0, hg0, OO0, hl0, hq0⟩ := sm0
        refine hK.out _ _ trivial (fun hHeld => ?_)
        clear hK K
        try simp only [Act.put, List.getElem_toArray, List.getElem_cons_zero, List.getElem_cons_succ, List.setIfInBounds_toArray, List.set_cons_zero, List.set_cons_succ]
        refine wpAnyH_ready (rs := [1, 2, 3]) (by kernel_rfl) (by simp) ?_
        refine AllReadyH.cons (o := _) rfl (fun K hK => ?_) (AllReadyH.cons (o := _) rfl (fun K hK => ?_) (AllReadyH.cons (o := _) rfl (fun K hK => ?_) AllReadyH.nil))
        · rw [if_pos (by rfl)]
          refine wp_make_bytes _ _ 37 rfl j0 Try.underlying37 hj hy0 hy1 hy2 .i64 .i64 32 rfl rfl (by decide) ?_
          intro wm1 OM1 bm1
          have dm1 : Below w0.heap.size w0 wm1 := belT dm0 bm1
          have sm1 : ∃ g, g = wm0.heap.size ∧ Own wm1 g (.slice (some ⟨g, 0, none⟩) 32 32) zero32 ∧ g < wm1.heap.size ∧ w4.heap.size ≤ g := ⟨wm0.heap.size, rfl, OM1, OM1.lt _ rfl, Nat.le_trans hq0 (Nat.le_of_lt hl0)⟩
          obtain ⟨g1, hg1, OO1, hl1, hq1⟩ := sm1
          refine hK.out _ _ trivial (fun hHeld => ?_)
          clear hK K
          try simp only [Act.put, List.getElem_toArray, List.getElem_cons_zero, List.getElem_cons_succ, List.setIfInBounds_toArray, List.set_cons_zero, List.set_cons_succ]
          refine wpAnyH_ready (rs := [2, 3]) (by kernel_rfl) (by simp) ?_
          refine AllReadyH.cons (o := _) rfl (fun K hK => ?_) (AllReadyH.cons (o := _) rfl (fun K hK => ?_) AllReadyH.nil)
          · rw [if_pos (by rfl)]
            refine wp_make_bytes _ _ 37 rfl j0 Try.underlying37 hj hy0 hy1 hy2 .i64 .i64 32 rfl rfl (by decide) ?_
            intro wm2 OM2 bm2
            have dm2 : Below w0.heap.size w0 wm2 := belT dm1 bm2
            have sm2 : ∃ g, g = wm1.heap.size ∧ Own wm2 g (.slice (some ⟨g, 0, none⟩) 32 32) zero32 ∧ g < wm2.heap.size ∧ w4.heap.size ≤ g := ⟨wm1.heap.size, rfl, OM2, OM2.lt _ rfl, Nat.le_trans hq1 (Nat.le_of_lt hl1)⟩
            obtain ⟨g2, hg2, OO2, hl2, hq2⟩ := sm2
            refine hK.out _ _ trivial (fun hHeld => ?_)
            clear hK K
            try simp only [Act.put, List.getElem_toArray, List.getElem_cons_zero, List.getElem_cons_succ, List.setIfInBounds_toArray, List.set_cons_zero, List.set_cons_succ]
            refine wpAnyH_ready (rs := [3]) (by kernel_rfl) (by simp) ?_
            refine AllReadyH.cons (o := _) rfl (fun K hK => ?_) AllReadyH.nil
            rw [if_pos (by rfl)]
            refine wp_make_bytes _ _ 37 rfl j0 Try.underlying37 hj hy0 hy1 hy2 .i64 .i64 32 rfl rfl (by decide) ?_
            intro wm3 OM3 bm3
            have dm3 : Below w0.heap.size w0 wm3 := belT dm2 bm3
            have sm3 : ∃ g, g = wm2.heap.size ∧ Own wm3 g (.slice (some ⟨g, 0, none⟩) 32 32) zero32 ∧ g < wm3.heap.size ∧ w4.heap.size ≤ g := ⟨wm2.heap.size, rfl, OM3, OM3.lt _ rfl, Nat.le_trans hq2 (Nat.le_of_lt hl2)⟩
            obtain ⟨g3, hg3, OO3, hl3, hq3⟩ := sm3
            refine hK.out _ _ trivial (fun hHeld => ?_)
            clear hK K
            try simp only [Act.put, List.getElem_toArray, List.getElem_cons_zero, List.getElem_cons_succ, List.setIfInBounds_toArray, List.set_cons_zero, List.set_cons_succ]
            refine wpAnyH_ready (rs := [4]) (by kernel_rfl) (by simp) ?_
            refine AllReadyH.cons (o := _) rfl (fun K hK => ?_) AllReadyH.nil
            go_simp
            have SZ0 : w0.heap.size ≤ g0 := Nat.le_trans B4.size hq0
            have SZ1 : w0.heap.size ≤ g1 := Nat.le_trans B4.size hq1
            have SZ2 : w0.heap.size ≤ g2 := Nat.le_trans B4.size hq2
            have SZ3 : w0.heap.size ≤ g3 := Nat.le_trans B4.size hq3
            have QD := OwnD.four (own_mono (OO0.up (belT bm1 (belT bm2 (bm3)))) SZ0) (own_mono (OO1.up (belT bm2 (bm3))) SZ1) (own_mono (OO2.up (bm3)) SZ2) (own_mono OO3 SZ3) (by omega) (by omega) (by omega) (by omega) (by omega) (by omega) (dm3.size)
            subst hg0 hg1 hg2 hg3
            refine hK.out _ _ trivial (fun hHeld => ?_)
            clear hK K
            try simp only [Act.put, List.getElem_toArray, List.getElem_cons_zero, List.getElem_cons_succ, List.setIfInBounds_toArray, List.set_cons_zero, List.set_cons_succ]
            refine wpAnyH_take (i := 5) (oi := _) (v := ?_) rfl (by kernel_rfl) (by kernel_rfl) (by kernel_rfl) (fun _ _ _ h => h) (Or.inl ⟨by rfl, ?_⟩) (by assumption) ?_
            rotate_left
            · intro w hSw
              (try dsimp only at hSw)
              go_simp
              try with_reducible rfl
            try simp only [Act.put, List.getElem_toArray, List.getElem_cons_zero, List.getElem_cons_succ, List.setIfInBounds_toArray, List.set_cons_zero, List.set_cons_succ]
            refine wpAnyH_done (by kernel_rfl) ?_ _
            go_wp2
            go_meet
            case rel => exact ⟨Lib.hid ⟨[zero32, zero32, zero32, zero32], rfl, (fun p hp => by simp only [List.mem_cons, List.not_mem_nil, or_false, or_self] at hp; rw [hp]; rfl), QD⟩, belA1 dm3⟩
          · rw [if_pos (by rfl)]
            refine wp_make_bytes _ _ 37 rfl j0 Try.underlying37 hj hy0 hy1 hy2 .i64 .i64 32 rfl rfl (by decide) ?_
            intro wm3 OM3 bm3
            have dm3 : Below w0.heap.size w0 wm3 := belT dm1 bm3
            have sm3 : ∃ g, g = wm1.heap.size ∧ Own wm3 g (.slice (some ⟨g, 0, none⟩) 32 32) zero32 ∧ g < wm3.heap.size ∧ w4.heap.size ≤ g := ⟨wm1.heap.size, rfl, OM3, OM3.lt _ rfl, Nat.le_trans hq1 (Nat.le_of_lt hl1)⟩
            obtain ⟨g3, hg3, OO3, hl3, hq3⟩ := sm3
            refine hK.out _ _ trivial (fun hHeld => ?_)
            clear hK K
            try simp only [Act.put, List.getElem_toArray, List.getElem_cons_zero, List.getElem_cons_succ, List.setIfInBounds_toArray, List.set_cons_zero, List.set_cons_succ]
            refine wpAnyH_ready (rs := [2]) (by kernel_rfl) (by simp) ?_
            refine AllReadyH.cons (o := _) rfl (fun K hK => ?_) AllReadyH.nil
            rw [if_pos (by rfl)]
            refine wp_make_bytes _ _ 37 rfl j0 Try.underlying37 hj hy0 hy1 hy2 .i64 .i64 32 rfl rfl (by decide) ?_
            intro wm2 OM2 bm2
            have dm2 : Below w0.heap.size w0 wm2 := belT dm3 bm2
            have sm2 : ∃ g, g = wm3.heap.size ∧ Own wm2 g (.slice (some ⟨g, 0, none⟩) 32 32) zero32 ∧ g < wm2.heap.size ∧ w4.heap.size ≤ g := ⟨wm3.heap.size, rfl, OM2, OM2.lt _ rfl, Nat.le_trans hq3 (Nat.le_of_lt hl3)⟩
            obtain ⟨g2, hg2, OO2, hl2, hq2⟩ := sm2
            refine hK.out _ _ trivial (fun hHeld => ?_)
            clear hK K
            try simp only [Act.put, List.getElem_toArray, List.getElem_cons_zero, List.getElem_cons_succ, List.setIfInBounds_toArray, List.set_cons_zero, List.set_cons_succ]
            refine wpAnyH_ready (rs := [4]) (by kernel_rfl) (by simp) ?_
            refine AllReadyH.cons (o := _) rfl (fun K hK => ?_) AllReadyH.nil
            go_simp
            have SZ0 : w0.heap.size ≤ g0 := Nat.le_trans B4.size hq0
            have SZ1 : w0.heap.size ≤ g1 := Nat.le_trans B4.size hq1
            have SZ2 : w0.heap.size ≤ g2 := Nat.le_trans B4.size hq2
            have SZ3 : w0.heap.size ≤ g3 := Nat.le_trans B4.size hq3
            have QD := OwnD.four (own_mono (OO0.up (belT bm1 (belT bm3 (bm2)))) SZ0) (own_mono (OO1.up (belT bm3 (bm2))) SZ1) (own_mono OO2 SZ2) (own_mono (OO3.up (bm2)) SZ3) (by omega) (by omega) (by omega) (by omega) (by omega) (by omega) (dm2.size)
            subst hg0 hg1 hg2 hg3
            refine hK.out _ _ trivial (fun hHeld => ?_)
            clear hK K
            try simp only [Act.put, List.getElem_toArray, List.getElem_cons_zero, List.getElem_cons_succ, List.setIfInBounds_toArray, List.set_cons_zero, List.set_cons_succ]
            refine wpAnyH_take (i := 5) (oi := _) (v := ?_) rfl (by kernel_rfl) (by kernel_rfl) (by kernel_rfl) (fun _ _ _ h => h) (Or.inl ⟨by rfl, ?_⟩) (by assumption) ?_
            rotate_left
            · intro w hSw
              (try dsimp only at hSw)
              go_simp
              try with_reducible rfl
            try simp only [Act.put, List.getElem_toArray, List.getElem_cons_zero, List.getElem_cons_succ, List.setIfInBounds_toArray, List.set_cons_zero, List.set_cons_succ]
            refine wpAnyH_done (by kernel_rfl) ?_ _
            go_wp2
            go_meet
            case rel => exact ⟨Lib.hid ⟨[zero32, zero32, zero32, zero32], rfl, (fun p hp => by simp only [List.mem_cons, List.not_mem_nil, or_false, or_self] at hp; rw [hp]; rfl), QD⟩, belA1 dm2⟩
        · rw [if_pos (by rfl)]
          refine wp_make_bytes _ _ 37 rfl j0 Try.underlying37 hj hy0 hy1 hy2 .i64 .i64 32 rfl rfl (by decide) ?_
          intro wm2 OM2 bm2
          have dm2 : Below w0.heap.size w0 wm2 := belT dm0 bm2
          have sm2 : ∃ g, g = wm0.heap.size ∧ Own wm2 g (.slice (some ⟨g, 0, none⟩) 32 32) zero32 ∧ g < wm2.heap.size ∧ w4.heap.size ≤ g := ⟨wm0.heap.size, rfl, OM2, OM2.lt _ rfl, Nat.le_trans hq0 (Nat.le_of_lt hl0)⟩
          obtain ⟨g2, hg2, OO2, hl2, hq2⟩ := sm2
          refine hK.out _ _ trivial (fun hHeld => ?_)
          clear hK K
          try simp only [Act.put, List.getElem_toArray, List.getElem_cons_zero, List.getElem_cons_succ, List.setIfInBounds_toArray, List.set_cons_zero, List.set_cons_succ]
          refine wpAnyH_ready (rs := [1, 3]) (by kernel_rfl) (by simp) ?_
          refine AllReadyH.cons (o := _) rfl (fun K hK => ?_) (AllReadyH.cons (o := _) rfl (fun K hK => ?_) AllReadyH.nil)
          · rw [if_pos (by rfl)]
            refine wp_make_bytes _ _ 37 rfl j0 Try.underlying37 hj hy0 hy1 hy2 .i64 .i64 32 rfl rfl (by decide) ?_
            intro wm1 OM1 bm1
            have dm1 : Below w0.heap.size w0 wm1 := belT dm2 bm1
            have sm1 : ∃ g, g = wm2.heap.size ∧ Own wm1 g (.slice (some ⟨g, 0, none⟩) 32 32) zero32 ∧ g < wm1.heap.size ∧ w4.heap.size ≤ g := ⟨wm2.heap.size, rfl, OM1, OM1.lt _ rfl, Nat.le_trans hq2 (Nat.le_of_lt hl2)⟩
            obtain ⟨g1, hg1, OO1, hl1, hq1⟩ := sm1
            refine hK.out _ _ trivial (fun hHeld => ?_)
            clear hK K
            try simp only [Act.put, List.getElem_toArray, List.getElem_cons_zero, List.getElem_cons_succ, List.setIfInBounds_toArray, List.set_cons_zero, List.set_cons_succ]
            refine wpAnyH_ready (rs := [3]) (by kernel_rfl) (by simp) ?_
            refine AllReadyH.cons (o := _) rfl (fun K hK => ?_) AllReadyH.nil
            rw [if_pos (by rfl)]
            refine wp_make_bytes _ _ 37 rfl j0 Try.underlying37 hj hy0 hy1 hy2 .i64 .i64 32 rfl rfl (by decide) ?_
            intro wm3 OM3 bm3
            have dm3 : Below w0.heap.size w0 wm3 := belT dm1 bm3
            have sm3 : ∃ g, g = wm1.heap.size ∧ Own wm3 g (.slice (some ⟨g, 0, none⟩) 32 32) zero32 ∧ g < wm3.heap.size ∧ w4.heap.size ≤ g := ⟨wm1.heap.size, rfl, OM3, OM3.lt _ rfl, Nat.le_trans hq1 (Nat.le_of_lt hl1)⟩
            obtain ⟨g3, hg3, OO3, hl3, hq3⟩ := sm3
            refine hK.out _ _ trivial (fun hHeld => ?_)
            clear hK K
            try simp only [Act.put, List.getElem_toArray, List.getElem_cons_zero, List.getElem_cons_succ, List.setIfInBounds_toArray, List.set_cons_zero, List.set_cons_succ]
            refine wpAnyH_ready (rs := [4]) (by kernel_rfl) (by simp) ?_
            refine AllReadyH.cons (o := _) rfl (fun K hK => ?_) AllReadyH.nil
            go_simp
            have SZ0 : w0.heap.size ≤ g0 := Nat.le_trans B4.size hq0
            have SZ1 : w0.heap.size ≤ g1 := Nat.le_trans B4.size hq1
            have SZ2 : w0.heap.size ≤ g2 := Nat.le_trans B4.size hq2
            have SZ3 : w0.heap.size ≤ g3 := Nat.le_trans B4.size hq3
            have QD := OwnD.four (own_mono (OO0.up (belT bm2 (belT bm1 (bm3)))) SZ0) (own_mono (OO1.up (bm3)) SZ1) (own_mono (OO2.up (belT bm1 (bm3))) SZ2) (own_mono OO3 SZ3) (by omega) (by omega) (by omega) (by omega) (by omega) (by omega) (dm3.size)
            subst hg0 hg1 hg2 hg3
            refine hK.out _ _ trivial (fun hHeld => ?_)
            clear hK K
            try simp only [Act.put, List.getElem_toArray, List.getElem_cons_zero, List.getElem_cons_succ, List.setIfInBounds_toArray, List.set_cons_zero, List.set_cons_succ]
            refine wpAnyH_take (i := 5) (oi := _) (v := ?_) rfl (by kernel_rfl) (by kernel_rfl) (by kernel_rfl) (fun _ _ _ h => h) (Or.inl ⟨by rfl, ?_⟩) (by assumption) ?_
            rotate_left
            · intro w hSw
              (try dsimp only at hSw)
              go_simp
              try with_reducible rfl
            try simp only [Act.put, List.getElem_toArray, List.getElem_cons_zero, List.getElem_cons_succ, List.setIfInBounds_toArray, List.set_cons_zero, List.set_cons_succ]
            refine wpAnyH_done (by kernel_rfl) ?_ _
            go_wp2
            go_meet
            case rel => exact ⟨Lib.hid ⟨[zero32, zero32, zero32, zero32], rfl, (fun p hp => by simp only [List.mem_cons, List.not_mem_nil, or_false, or_self] at hp; rw [hp]; rfl), QD⟩, belA1 dm3⟩
          · rw [if_pos (by rfl)]
            refine wp_make_bytes _ _ 37 rfl j0 Try.underlying37 hj hy0 hy1 hy2 .i64 .i64 32 rfl rfl (by decide) ?_
            intro wm3 OM3 bm3
            have dm3 : Below w0.heap.size w0 wm3 := belT dm2 bm3
            have sm3 : ∃ g, g = wm2.heap.size ∧ Own wm3 g (.slice (some ⟨g, 0, none⟩) 32 32) zero32 ∧ g < wm3.heap.size ∧ w4.heap.size ≤ g := ⟨wm2.heap.size, rfl, OM3, OM3.lt _ rfl, Nat.le_trans hq2 (Nat.le_of_lt hl2)⟩
            obtain ⟨g3, hg3, OO3, hl3, hq3⟩ := sm3
            refine hK.out _ _ trivial (fun hHeld => ?_)
            clear hK K
            try simp only [Act.put, List.getElem_toArray, List.getElem_cons_zero, List.getElem_cons_succ, List.setIfInBounds_toArray, List.set_cons_zero, List.set_cons_succ]
            refine wpAnyH_ready (rs := [1]) (by kernel_rfl) (by simp) ?_
            refine AllReadyH.cons (o := _) rfl (fun K hK => ?_) AllReadyH.nil
            rw [if_pos (by rfl)]
            refine wp_make_bytes _ _ 37 rfl j0 Try.underlying37 hj hy0 hy1 hy2 .i64 .i64 32 rfl rfl (by decide) ?_
            intro wm1 OM1 bm1
            have dm1 : Below w0.heap.size w0 wm1 := belT dm3 bm1
            have sm1 : ∃ g, g = wm3.heap.size ∧ Own wm1 g (.slice (some ⟨g, 0, none⟩) 32 32) zero32 ∧ g < wm1.heap.size ∧ w4.heap.size ≤ g := ⟨wm3.heap.size, rfl, OM1, OM1.lt _ rfl, Nat.le_trans hq3 (Nat.le_of_lt hl3)⟩
            obtain ⟨g1, hg1, OO1, hl1, hq1⟩ := sm1
            refine hK.out _ _ trivial (fun hHeld => ?_)
            clear hK K
            try simp only [Act.put, List.getElem_toArray, List.getElem_cons_zero, List.getElem_cons_succ, List.setIfInBounds_toArray, List.set_cons_zero, List.set_cons_succ]
            refine wpAnyH_ready (rs := [4]) (by kernel_rfl) (by simp) ?_
            refine AllReadyH.cons (o := _) rfl (fun K hK => ?_) AllReadyH.nil
            go_simp
            have SZ0 : w0.heap.size ≤ g0 := Nat.le_trans B4.size hq0
            have SZ1 : w0.heap.size ≤ g1 := Nat.le_trans B4.size hq1
            have SZ2 : w0.heap.size ≤ g2 := Nat.le_trans B4.size hq2
            have SZ3 : w0.heap.size ≤ g3 := Nat.le_trans B4.size hq3
            have QD := OwnD.four (own_mono (OO0.up (belT bm2 (belT bm3 (bm1)))) SZ0) (own_mono OO1 SZ1) (own_mono (OO2.up (belT bm3 (bm1))) SZ2) (own_mono (OO3.up (bm1)) SZ3) (by omega) (by omega) (by omega) (by omega) (by omega) (by omega) (dm1.size)
            subst hg0 hg1 hg2 hg3
            refine hK.out _ _ trivial (fun hHeld => ?_)
            clear hK K
            try simp only [Act.put, List.getElem_toArray, List.getElem_cons_zero, List.getElem_cons_succ, List.setIfInBounds_toArray, List.set_cons_zero, List.set_cons_succ]
            refine wpAnyH_take (i := 5) (oi := _) (v := ?_) rfl (by kernel_rfl) (by kernel_rfl) (by kernel_rfl) (fun _ _ _ h => h) (Or.inl ⟨by rfl, ?_⟩) (by assumption) ?_
            rotate_left
            · intro w hSw
              (try dsimp only at hSw)
              go_simp
              try with_reducible rfl
            try simp only [Act.put, List.getElem_toArray, List.getElem_cons_zero, List.getElem_cons_succ, List.setIfInBounds_toArray, List.set_cons_zero, List.set_cons_succ]
            refine wpAnyH_done (by kernel_rfl) ?_ _
            go_wp2
            go_meet
            case rel => exact ⟨Lib.hid ⟨[zero32, zero32, zero32, zero32], rfl, (fun p hp => by simp only [List.mem_cons, List.not_mem_nil, or_false, or_self] at hp; rw [hp]; rfl), QD⟩, belA1 dm1⟩
        · rw [if_pos (by rfl)]
          refine wp_make_bytes _ _ 37 rfl j0 Try.underlying37 hj hy0 hy1 hy2 .i64 .i64 32 rfl rfl (by decide) ?_
          intro wm3 OM3 bm3
          have dm3 : Below w0.heap.size w0 wm3 := belT dm0 bm3
          have sm3 : ∃ g, g = wm0.heap.size ∧ Own wm3 g (.slice (some ⟨g, 0, none⟩) 32 32) zero32 ∧ g < wm3.heap.size ∧ w4.heap.size ≤ g := ⟨wm0.heap.size, rfl, OM3, OM3.lt _ rfl, Nat.le_trans hq0 (Nat.le_of_lt hl0)⟩
          obtain ⟨g3, hg3, OO3, hl3, hq3⟩ := sm3
          refine hK.out _ _ trivial (fun hHeld => ?_)
          clear hK K
          try simp only [Act.put, List.getElem_toArray, List.getElem_cons_zero, List.getElem_cons_succ, List.setIfInBounds_toArray, List.set_cons_zero, List.set_cons_succ]
          refine wpAnyH_ready (rs := [1, 2]) (by kernel_rfl) (by simp) ?_
          refine AllReadyH.cons (o := _) rfl (fun K hK => ?_) (AllReadyH.cons (o := _) rfl (fun K hK => ?_) AllReadyH.nil)
          · rw [if_pos (by rfl)]
            refine wp_make_bytes _ _ 37 rfl j0 Try.underlying37 hj hy0 hy1 hy2 .i64 .i64 32 rfl rfl (by decide) ?_
            intro wm1 OM1 bm1
            have dm1 : Below w0.heap.size w0 wm1 := belT dm3 bm1
            have sm1 : ∃ g, g = wm3.heap.size ∧ Own wm1 g (.slice (some ⟨g, 0, none⟩) 32 32) zero32 ∧ g < wm1.heap.size ∧ w4.heap.size ≤ g := ⟨wm3.heap.size, rfl, OM1, OM1.lt _ rfl, Nat.le_trans hq3 (Nat.le_of_lt hl3)⟩
            obtain ⟨g1, hg1, OO1, hl1, hq1⟩ := sm1
            refine hK.out _ _ trivial (fun hHeld => ?_)
            clear hK K
            try simp only [Act.put, List.getElem_toArray, List.getElem_cons_zero, List.getElem_cons_succ, List.setIfInBounds_toArray, List.set_cons_zero, List.set_cons_succ]
            refine wpAnyH_ready (rs := [2]) (by kernel_rfl) (by simp) ?_
            refine AllReadyH.cons (o := _) rfl (fun K hK => ?_) AllReadyH.nil
            rw [if_pos (by rfl)]
            refine wp_make_bytes _ _ 37 rfl j0 Try.underlying37 hj hy0 hy1 hy2 .i64 .i64 32 rfl rfl (by decide) ?_
            intro wm2 OM2 bm2
            have dm2 : Below w0.heap.size w0 wm2 := belT dm1 bm2
            have sm2 : ∃ g, g = wm1.heap.size ∧ Own wm2 g (.slice (some ⟨g, 0, none⟩) 32 32) zero32 ∧ g < wm2.heap.size ∧ w4.heap.size ≤ g := ⟨wm1.heap.size, rfl, OM2, OM2.lt _ rfl, Nat.le_trans hq1 (Nat.le_of_lt hl1)⟩
            obtain ⟨g2, hg2, OO2, hl2, hq2⟩ := sm2
            refine hK.out _ _ trivial (fun hHeld => ?_)
            clear hK K
            try simp only [Act.put, List.getElem_toArray, List.getElem_cons_zero, List.getElem_cons_succ, List.setIfInBounds_toArray, List.set_cons_zero, List.set_cons_succ]
            refine wpAnyH_ready (rs := [4]) (by kernel_rfl) (by simp) ?_
            refine AllReadyH.cons (o := _) rfl (fun K hK => ?_) AllReadyH.nil
            go_simp
            have SZ0 : w0.heap.size ≤ g0 := Nat.le_trans B4.size hq0
            have SZ1 : w0.heap.size ≤ g1 := Nat.le_trans B4.size hq1
            have SZ2 : w0.heap.size ≤ g2 := Nat.le_trans B4.size hq2
            have SZ3 : w0.heap.size ≤ g3 := Nat.le_trans B4.size hq3
            have QD := OwnD.four (own_mono (OO0.up (belT bm3 (belT bm1 (bm2)))) SZ0) (own_mono (OO1.up (bm2)) SZ1) (own_mono OO2 SZ2) (own_mono (OO3.up (belT bm1 (bm2))) SZ3) (by omega) (by omega) (by omega) (by omega) (by omega) (by omega) (dm2.size)
            subst hg0 hg1 hg2 hg3
            refine hK.out _ _ trivial (fun hHeld => ?_)
            clear hK K
            try simp only [Act.put, List.getElem_toArray, List.getElem_cons_zero, List.getElem_cons_succ, List.setIfInBounds_toArray, List.set_cons_zero, List.set_cons_succ]
            refine wpAnyH_take (i := 5) (oi := _) (v := ?_) rfl (by kernel_rfl) (by kernel_rfl) (by kernel_rfl) (fun _ _ _ h => h) (Or.inl ⟨by rfl, ?_⟩) (by assumption) ?_
            rotate_left
            · intro w hSw
              (try dsimp only at hSw)
              go_simp
              try with_reducible rfl
            try simp only [Act.put, List.getElem_toArray, List.getElem_cons_zero, List.getElem_cons_succ, List.setIfInBounds_toArray, List.set_cons_zero, List.set_cons_succ]
            refine wpAnyH_done (by kernel_rfl) ?_ _
            go_wp2
            go_meet
            case rel => exact ⟨Lib.hid ⟨[zero32, zero32, zero32, zero32], rfl, (fun p hp => by simp only [List.mem_cons, List.not_mem_nil, or_false, or_self] at hp; rw [hp]; rfl), QD⟩, belA1 dm2⟩
          · rw [if_pos (by rfl)]
            refine wp_make_bytes _ _ 37 rfl j0 Try.underlying37 hj hy0 hy1 hy2 .i64 .i64 32 rfl rfl (by decide) ?_
            intro wm2 OM2 bm2
            have dm2 : Below w0.heap.size w0 wm2 := belT dm3 bm2
            have sm2 : ∃ g, g = wm3.heap.size ∧ Own wm2 g (.slice (some ⟨g, 0, none⟩) 32 32) zero32 ∧ g < wm2.heap.size ∧ w4.heap.size ≤ g := ⟨wm3.heap.size, rfl, OM2, OM2.lt _ rfl, Nat.le_trans hq3 (Nat.le_of_lt hl3)⟩
            obtain ⟨g2, hg2, OO2, hl2, hq2⟩ := sm2
            refine hK.out _ _ trivial (fun hHeld => ?_)
            clear hK K
            try simp only [Act.put, List.getElem_toArray, List.getElem_cons_zero, List.getElem_cons_succ, List.setIfInBounds_toArray, List.set_cons_zero, List.set_cons_succ]
            refine wpAnyH_ready (rs := [1]) (by kernel_rfl) (by simp) ?_
            refine AllReadyH.cons (o := _) rfl (fun K hK => ?_) AllReadyH.nil
            rw [if_pos (by rfl)]
            refine wp_make_bytes _ _ 37 rfl j0 Try.underlying37 hj hy0 hy1 hy2 .i64 .i64 32 rfl rfl (by decide) ?_
            intro wm1 OM1 bm1
            have dm1 : Below w0.heap.size w0 wm1 := belT dm2 bm1
            have sm1 : ∃ g, g = wm2.heap.size ∧ Own wm1 g (.slice (some ⟨g, 0, none⟩) 32 32) zero32 ∧ g < wm1.heap.size ∧ w4.heap.size ≤ g := ⟨wm2.heap.size, rfl, OM1, OM1.lt _ rfl, Nat.le_trans hq2 (Nat.le_of_lt hl2)⟩
            obtain ⟨g1, hg1, OO1, hl1, hq1⟩ := sm1
            refine hK.out _ _ trivial (fun hHeld => ?_)
            clear hK K
            try simp only [Act.put, List.getElem_toArray, List.getElem_cons_zero, List.getElem_cons_succ, List.setIfInBounds_toArray, List.set_cons_zero, List.set_cons_succ]
            refine wpAnyH_ready (rs := [4]) (by kernel_rfl) (by simp) ?_
            refine AllReadyH.cons (o := _) rfl (fun K hK => ?_) AllReadyH.nil
            go_simp
            have SZ0 : w0.heap.size ≤ g0 := Nat.le_trans B4.size hq0
            have SZ1 : w0.heap.size ≤ g1 := Nat.le_trans B4.size hq1
            have SZ2 : w0.heap.size ≤ g2 := Nat.le_trans B4.size hq2
            have SZ3 : w0.heap.size ≤ g3 := Nat.le_trans B4.size hq3
            have QD := OwnD.four (own_mono (OO0.up (belT bm3 (belT bm2 (bm1)))) SZ0) (own_mono OO1 SZ1) (own_mono (OO2.up (bm1)) SZ2) (own_mono (OO3.up (belT bm2 (bm1))) SZ3) (by omega) (by omega) (by omega) (by omega) (by omega) (by omega) (dm1.size)
            subst hg0 hg1 hg2 hg3
            refine hK.out _ _ trivial (fun hHeld => ?_)
            clear hK K
            try simp only [Act.put, List.getElem_toArray, List.getElem_cons_zero, List.getElem_cons_succ, List.setIfInBounds_toArray, List.set_cons_zero, List.set_cons_succ]
            refine wpAnyH_take (i := 5) (oi := _) (v := ?_) rfl (by kernel_rfl) (by kernel_rfl) (by kernel_rfl) (fun _ _ _ h => h) (Or.inl ⟨by rfl, ?_⟩) (by assumption) ?_
            rotate_left
            · intro w hSw
              (try dsimp only at hSw)
              go_simp
              try with_reducible rfl
            try simp only [Act.put, List.getElem_toArray, List.getElem_cons_zero, List.getElem_cons_succ, List.setIfInBounds_toArray, List.set_cons_zero, List.set_cons_succ]
            refine wpAnyH_done (by kernel_rfl) ?_ _
            go_wp2
            go_meet
            case rel => exact ⟨Lib.hid ⟨[zero32, zero32, zero32, zero32], rfl, (fun p hp => by simp only [List.mem_cons, List.not_mem_nil, or_false, or_self] at hp; rw [hp]; rfl), QD⟩, belA1 dm1⟩
      · rw [if_pos (by rfl)]
        refine wp_make_bytes _ _ 37 rfl j0 Try.underlying37 hj hy0 hy1 hy2 .i64 .i64 32 rfl rfl (by decide) ?_
        intro wm1 OM1 bm1
        have dm1 : Below w0.heap.size w0 wm1 := belT (belDr B4) bm1
        have sm1 : ∃ g, g = w4.heap.size ∧ Own wm1 g (.slice (some ⟨g, 0, none⟩) 32 32) zero32 ∧ g < wm1.heap.size ∧ w4.heap.size ≤ g := ⟨w4.heap.size, rfl, OM1, OM1.lt _ rfl, Nat.le_refl _⟩
        obtain ⟨g1, hg1, OO1, hl1, hq1⟩ := sm1
        refine hK.out _ _ trivial (fun hHeld => ?_)
        clear hK K
        try simp only [Act.put, List.getElem_toArray, List.getElem_cons_zero, List.getElem_cons_succ, List.setIfInBounds_toArray, List.set_cons_zero, List.set_cons_succ]
        refine wpAnyH_ready (rs := [0, 2, 3]) (by kernel_rfl) (by simp) ?_
        refine AllReadyH.cons (o := _) rfl (fun K hK => ?_) (AllReadyH.cons (o := _) rfl (fun K hK => ?_) (AllReadyH.cons (o := _) rfl (fun K hK => ?_) AllReadyH.nil))
        · rw [if_pos (by rfl)]
          refine wp_make_bytes _ _ 37 rfl j0 Try.underlying37 hj hy0 hy1 hy2 .i64 .i64 32 rfl rfl (by decide) ?_
          intro wm0 OM0 bm0
          have dm0 : Below w0.heap.size w0 wm0 := belT dm1 bm0
          have sm0 : ∃ g, g = wm1.heap.size ∧ Own wm0 g (.slice (some ⟨g, 0, none⟩) 32 32) zero32 ∧ g < wm0.heap.size ∧ w4.heap.size ≤ g := ⟨wm1.heap.size, rfl, OM0, OM0.lt _ rfl, Nat.le_trans hq1 (Nat.le_of_lt hl1)⟩
          obtain ⟨g0, hg0, OO0, hl0, hq0⟩ := sm0
          refine hK.out _ _ trivial (fun hHeld => ?_)
          clear hK K
          try simp only [Act.put, List.getElem_toArray, List.getElem_cons_zero, List.getElem_cons_succ, List.setIfInBounds_toArray, List.set_cons_zero, List.set_cons_succ]
          refine wpAnyH_ready (rs := [2, 3]) (by kernel_rfl) (by simp) ?_
          refine AllReadyH.cons (o := _) rfl (fun K hK => ?_) (AllReadyH.cons (o := _) rfl (fun K hK => ?_) AllReadyH.nil)
          · rw [if_pos (by rfl)]
            refine wp_make_bytes _ _ 37 rfl j0 Try.underlying37 hj hy0 hy1 hy2 .i64 .i64 32 rfl rfl (by decide) ?_
            intro wm2 OM2 bm2
            have dm2 : Below w0.heap.size w0 wm2 := belT dm0 bm2
            have sm2 : ∃ g, g = wm0.heap.size ∧ Own wm2 g (.slice (some ⟨g, 0, none⟩) 32 32) zero32 ∧ g < wm2.heap.size ∧ w4.heap.size ≤ g := ⟨wm0.heap.size, rfl, OM2, OM2.lt _ rfl, Nat.le_trans hq0 (Nat.le_of_lt hl0)⟩
            obtain ⟨g2, hg2, OO2, hl2, hq2⟩ := sm2
            refine hK.out _ _ trivial (fun hHeld => ?_)
            clear hK K
            try simp only [Act.put, List.getElem_toArray, List.getElem_cons_zero, List.getElem_cons_succ, List.setIfInBounds_toArray, List.set_cons_zero, List.set_cons_succ]
            refine wpAnyH_ready (rs := [3]) (by kernel_rfl) (by simp) ?_
            refine AllReadyH.cons (o := _) rfl (fun K hK => ?_) AllReadyH.nil
            rw [if_pos (by rfl)]
            refine wp_make_bytes _ _ 37 rfl j0 Try.underlying37 hj hy0 hy1 hy2 .i64 .i64 32 rfl rfl (by decide) ?_
            intro wm3 OM3 bm3
            have dm3 : Below w0.heap.size w0 wm3 := belT dm2 bm3
            have sm3 : ∃ g, g = wm2.heap.size ∧ Own wm3 g (.slice (some ⟨g, 0, none⟩) 32 32) zero32 ∧ g < wm3.heap.size ∧ w4.heap.size ≤ g := ⟨wm2.heap.size, rfl, OM3, OM3.lt _ rfl, Nat.le_trans hq2 (Nat.le_of_lt hl2)⟩
            obtain ⟨g3, hg3, OO3, hl3, hq3⟩ := sm3
            refine hK.out _ _ trivial (fun hHeld => ?_)
            clear hK K
            try simp only [Act.put, List.getElem_toArray, List.getElem_cons_zero, List.getElem_cons_succ, List.setIfInBounds_toArray, List.set_cons_zero, List.set_cons_succ]
            refine wpAnyH_ready (rs := [4]) (by kernel_rfl) (by simp) ?_
            refine AllReadyH.cons (o := _) rfl (fun K hK => ?_) AllReadyH.nil
            go_simp
            have SZ0 : w0.heap.size ≤ g0 := Nat.le_trans B4.size hq0
            have SZ1 : w0.heap.size ≤ g1 := Nat.le_trans B4.size hq1
            have SZ2 : w0.heap.size ≤ g2 := Nat.le_trans B4.size hq2
            have SZ3 : w0.heap.size ≤ g3 := Nat.le_trans B4.size hq3
            have QD := OwnD.four (own_mono (OO0.up (belT bm2 (bm3))) SZ0) (own_mono (OO1.up (belT bm0 (belT bm2 (bm3)))) SZ1) (own_mono (OO2.up (bm3)) SZ2) (own_mono OO3 SZ3) (by omega) (by omega) (by omega) (by omega) (by omega) (by omega) (dm3.size)
            subst hg0 hg1 hg2 hg3
            refine hK.out _ _ trivial (fun hHeld => ?_)
            clear hK K
            try simp only [Act.put, List.getElem_toArray, List.getElem_cons_zero, List.getElem_cons_succ, List.setIfInBounds_toArray, List.set_cons_zero, List.set_cons_succ]
            refine wpAnyH_take (i := 5) (oi := _) (v := ?_) rfl (by kernel_rfl) (by kernel_rfl) (by kernel_rfl) (fun _ _ _ h => h) (Or.inl ⟨by rfl, ?_⟩) (by assumption) ?_
            rotate_left
            · intro w hSw
              (try dsimp only at hSw)
              go_simp
              try with_reducible rfl
            try simp only [Act.put, List.getElem_toArray, List.getElem_cons_zero, List.getElem_cons_succ, List.setIfInBounds_toArray, List.set_cons_zero, List.set_cons_succ]
            refine wpAnyH_done (by kernel_rfl) ?_ _
            go_wp2
            go_meet
            case rel => exact ⟨Lib.hid ⟨[zero32, zero32, zero32, zero32], rfl, (fun p hp => by simp only [List.mem_cons, List.not_mem_nil, or_false, or_self] at hp; rw [hp]; rfl), QD⟩, belA1 dm3⟩
          · rw [if_pos (by rfl)]
            refine wp_make_bytes _ _ 37 rfl j0 Try.underlying37 hj hy0 hy1 hy2 .i64 .i64 32 rfl rfl (by decide) ?_
            intro wm3 OM3 bm3
            have dm3 : Below w0.heap.size w0 wm3 := belT dm0 bm3
            have sm3 : ∃ g, g = wm0.heap.size ∧ Own wm3 g (.slice (some ⟨g, 0, none⟩) 32 32) zero32 ∧ g < wm3.heap.size ∧ w4.heap.size ≤ g := ⟨wm0.heap.size, rfl, OM3, OM3.lt _ rfl, Nat.le_trans hq0 (Nat.le_of_lt hl0)⟩
            obtain ⟨g3, hg3, OO3, hl3, hq3⟩ := sm3
            refine hK.out _ _ trivial (fun hHeld => ?_)
            clear hK K
            try simp only [Act.put, List.getElem_toArray, List.getElem_cons_zero, List.getElem_cons_succ, List.setIfInBounds_toArray, List.set_cons_zero, List.set_cons_succ]
            refine wpAnyH_ready (rs := [2]) (by kernel_rfl) (by simp) ?_
            refine AllReadyH.cons (o := _) rfl (fun K hK => ?_) AllReadyH.nil
            rw [if_pos (by rfl)]
            refine wp_make_bytes _ _ 37 rfl j0 Try.underlying37 hj hy0 hy1 hy2 .i64 .i64 32 rfl rfl (by decide) ?_
            intro wm2 OM2 bm2
            have dm2 : Below w0.heap.size w0 wm2 := belT dm3 bm2
            have sm2 : ∃ g, g = wm3.heap.size ∧ Own wm2 g (.slice (some ⟨g, 0, none⟩) 32 32) zero32 ∧ g < wm2.heap.size ∧ w4.heap.size ≤ g := ⟨wm3.heap.size, rfl, OM2, OM2.lt _ rfl, Nat.le_trans hq3 (Nat.le_of_lt hl3)⟩
            obtain ⟨g2, hg2, OO2, hl2, hq2⟩ := sm2
            refine hK.out _ _ trivial (fun hHeld => ?_)
            clear hK K
            try simp only [Act.put, List.getElem_toArray, List.getElem_cons_zero, List.getElem_cons_succ, List.setIfInBounds_toArray, List.set_cons_zero, List.set_cons_succ]
            refine wpAnyH_ready (rs := [4]) (by kernel_rfl) (by simp) ?_
            refine AllReadyH.cons (o := _) rfl (fun K hK => ?_) AllReadyH.nil
            go_simp
            have SZ0 : w0.heap.size ≤ g0 := Nat.le_trans B4.size hq0
            have SZ1 : w0.heap.size ≤ g1 := Nat.le_trans B4.size hq1
            have SZ2 : w0.heap.size ≤ g2 := Nat.le_trans B4.size hq2
            have SZ3 : w0.heap.size ≤ g3 := Nat.le_trans B4.size hq3
            have QD := OwnD.four (own_mono (OO0.up (belT bm3 (bm2))) SZ0) (own_mono (OO1.up (belT bm0 (belT bm3 (bm2)))) SZ1) (own_mono OO2 SZ2) (own_mono (OO3.up (bm2)) SZ3) (by omega) (by omega) (by omega) (by omega) (by omega) (by omega) (dm2.size)
            subst hg0 hg1 hg2 hg3
            refine hK.out _ _ trivial (fun hHeld => ?_)
            clear hK K
            try simp only [Act.put, List.getElem_toArray, List.getElem_cons_zero, List.getElem_cons_succ, List.setIfInBounds_toArray, List.set_cons_zero, List.set_cons_succ]
            refine wpAnyH_take (i := 5) (oi := _) (v := ?_) rfl (by kernel_rfl) (by kernel_rfl) (by kernel_rfl) (fun _ _ _ h => h) (Or.inl ⟨by rfl, ?_⟩) (by assumption) ?_
            rotate_left
            · intro w hSw
              (try dsimp only at hSw)
              go_simp
              try with_reducible rfl
            try simp only [Act.put, List.getElem_toArray, List.getElem_cons_zero, List.getElem_cons_succ, List.setIfInBounds_toArray, List.set_cons_zero, List.set_cons_succ]
            refine wpAnyH_done (by kernel_rfl) ?_ _
            go_wp2
            go_meet
            case rel => exact ⟨Lib.hid ⟨[zero32, zero32, zero32, zero32], rfl, (fun p hp => by simp only [List.mem_cons, List.not_mem_nil, or_false, or_self] at hp; rw [hp]; rfl), QD⟩, belA1 dm2⟩
        · rw [if_pos (by rfl)]
          refine wp_make_bytes _ _ 37 rfl j0 Try.underlying37 hj hy0 hy1 hy2 .i64 .i64 32 rfl rfl (by decide) ?_
          intro wm2 OM2 bm2
          have dm2 : Below w0.heap.size w0 wm2 := belT dm1 bm2
          have sm2 : ∃ g, g = wm1.heap.size ∧ Own wm2 g (.slice (some ⟨g, 0, none⟩) 32 32) zero32 ∧ g < wm2.heap.size ∧ w4.heap.size ≤ g := ⟨wm1.heap.size, rfl, OM2, OM2.lt _ rfl, Nat.le_trans hq1 (Nat.le_of_lt hl1)⟩
          obtain ⟨g2, hg2, OO2, hl2, hq2⟩ := sm2
          refine hK.out _ _ trivial (fun hHeld => ?_)
          clear hK K
          try simp only [Act.put, List.getElem_toArray, List.getElem_cons_zero, List.getElem_cons_succ, List.setIfInBounds_toArray, List.set_cons_zero, List.set_cons_succ]
          refine wpAnyH_ready (rs := [0, 3]) (by kernel_rfl) (by simp) ?_
          refine AllReadyH.cons (o := _) rfl (fun K hK => ?_) (AllReadyH.cons (o := _) rfl (fun K hK => ?_) AllReadyH.nil)
          · rw [if_pos (by rfl)]
            refine wp_make_bytes _ _ 37 rfl j0 Try.underlying37 hj hy0 hy1 hy2 .i64 .i64 32 rfl rfl (by decide) ?_
            intro wm0 OM0 bm0
            have dm0 : Below w0.heap.size w0 wm0 := belT dm2 bm0
            have sm0 : ∃ g, g = wm2.heap.size ∧ Own wm0 g (.slice (some ⟨g, 0, none⟩) 32 32) zero32 ∧ g < wm0.heap.size ∧ w4.heap.size ≤ g := ⟨wm2.heap.size, rfl, OM0, OM0.lt _ rfl, Nat.le_trans hq2 (Nat.le_of_lt hl2)⟩
            obtain ⟨g0, hg0, OO0, hl0, hq0⟩ := sm0
            refine hK.out _ _ trivial (fun hHeld => ?_)
            clear hK K
            try simp only [Act.put, List.getElem_toArray, List.getElem_cons_zero, List.getElem_cons_succ, List.setIfInBounds_toArray, List.set_cons_zero, List.set_cons_succ]
            refine wpAnyH_ready (rs := [3]) (by kernel_rfl) (by simp) ?_
            refine AllReadyH.cons (o := _) rfl (fun K hK => ?_) AllReadyH.nil
            rw [if_pos (by rfl)]
            refine wp_make_bytes _ _ 37 rfl j0 Try.underlying37 hj hy0 hy1 hy2 .i64 .i64 32 rfl rfl (by decide) ?_
            intro wm3 OM3 bm3
            have dm3 : Below w0.heap.size w0 wm3 := belT dm0 bm3
            have sm3 : ∃ g, g = wm0.heap.size ∧ Own wm3 g (.slice (some ⟨g, 0, none⟩) 32 32) zero32 ∧ g < wm3.heap.size ∧ w4.heap.size ≤ g := ⟨wm0.heap.size, rfl, OM3, OM3.lt _ rfl, Nat.le_trans hq0 (Nat.le_of_lt hl0)⟩
            obtain ⟨g3, hg3, OO3, hl3, hq3⟩ := sm3
            refine hK.out _ _ trivial (fun hHeld => ?_)
            clear hK K
            try simp only [Act.put, List.getElem_toArray, List.getElem_cons_zero, List.getElem_cons_succ, List.setIfInBounds_toArray, List.set_cons_zero, List.set_cons_succ]
            refine wpAnyH_ready (rs := [4]) (by kernel_rfl) (by simp) ?_
            refine AllReadyH.cons (o := _) rfl (fun K hK => ?_) AllReadyH.nil
            go_simp
            have SZ0 : w0.heap.size ≤ g0 := Nat.le_trans B4.size hq0
            have SZ1 : w0.heap.size ≤ g1 := Nat.le_trans B4.size hq1
            have SZ2 : w0.heap.size ≤ g2 := Nat.le_trans B4.size hq2
            have SZ3 : w0.heap.size ≤ g3 := Nat.le_trans B4.size hq3
            have QD := OwnD.four (own_mono (OO0.up (bm3)) SZ0) (own_mono (OO1.up (belT bm2 (belT bm0 (bm3)))) SZ1) (own_mono (OO2.up (belT bm0 (bm3))) SZ2) (own_mono OO3 SZ3) (by omega) (by omega) (by omega) (by omega) (by omega) (by omega) (dm3.size)
            subst hg0 hg1 hg2 hg3
            refine hK.out _ _ trivial (fun hHeld => ?_)
            clear hK K
            try simp only [Act.put, List.getElem_toArray, List.getElem_cons_zero, List.getElem_cons_succ, List.setIfInBounds_toArray, List.set_cons_zero, List.set_cons_succ]
            refine wpAnyH_take (i := 5) (oi := _) (v := ?_) rfl (by kernel_rfl) (by kernel_rfl) (by kernel_rfl) (fun _ _ _ h => h) (Or.inl ⟨by rfl, ?_⟩) (by assumption) ?_
            rotate_left
            · intro w hSw
              (try dsimp only at hSw)
              go_simp
              try with_reducible rfl
            try simp only [Act.put, List.getElem_toArray, List.getElem_cons_zero, List.getElem_cons_succ, List.setIfInBounds_toArray, List.set_cons_zero, List.set_cons_succ]
            refine wpAnyH_done (by kernel_rfl) ?_ _
            go_wp2
            go_meet
            case rel => exact ⟨Lib.hid ⟨[zero32, zero32, zero32, zero32], rfl, (fun p hp => by simp only [List.mem_cons, List.not_mem_nil, or_false, or_self] at hp; rw [hp]; rfl), QD⟩, belA1 dm3⟩
          · rw [if_pos (by rfl)]
            refine wp_make_bytes _ _ 37 rfl j0 Try.underlying37 hj hy0 hy1 hy2 .i64 .i64 32 rfl rfl (by decide) ?_
            intro wm3 OM3 bm3
            have dm3 : Below w0.heap.size w0 wm3 := belT dm2 bm3
            have sm3 : ∃ g, g = wm2.heap.size ∧ Own wm3 g (.slice (some ⟨g, 0, none⟩) 32 32) zero32 ∧ g < wm3.heap.size ∧ w4.heap.size ≤ g := ⟨wm2.heap.size, rfl, OM3, OM3.lt _ rfl, Nat.le_trans hq2 (Nat.le_of_lt hl2)⟩
            obtain ⟨g3, hg3, OO3, hl3, hq3⟩ := sm3
            refine hK.out _ _ trivial (fun hHeld => ?_)
            clear hK K
            try simp only [Act.put, List.getElem_toArray, List.getElem_cons_zero, List.getElem_cons_succ, List.setIfInBounds_toArray, List.set_cons_zero, List.set_cons_succ]
            refine wpAnyH_ready (rs := [0]) (by kernel_rfl) (by simp) ?_
            refine AllReadyH.cons (o := _) rfl (fun K hK => ?_) AllReadyH.nil
            rw [if_pos (by rfl)]
            refine wp_make_bytes _ _ 37 rfl j0 Try.underlying37 hj hy0 hy1 hy2 .i64 .i64 32 rfl rfl (by decide) ?_
            intro wm0 OM0 bm0
            have dm0 : Below w0.heap.size w0 wm0 := belT dm3 bm0
            have sm0 : ∃ g, g = wm3.heap.size ∧ Own wm0 g (.slice (some ⟨g, 0, none⟩) 32 32) zero32 ∧ g < wm0.heap.size ∧ w4.heap.size ≤ g := ⟨wm3.heap.size, rfl, OM0, OM0.lt _ rfl, Nat.le_trans hq3 (Nat.le_of_lt hl3)⟩
            obtain ⟨g0, hg0, OO0, hl0, hq0⟩ := sm0
            refine hK.out _ _ trivial (fun hHeld => ?_)
            clear hK K
            try simp only [Act.put, List.getElem_toArray, List.getElem_cons_zero, List.getElem_cons_succ, List.setIfInBounds_toArray, List.set_cons_zero, List.set_cons_succ]
            refine wpAnyH_ready (rs := [4]) (by kernel_rfl) (by simp) ?_
            refine AllReadyH.cons (o := _) rfl (fun K hK => ?_) AllReadyH.nil
            go_simp
            have SZ0 : w0.heap.size ≤ g0 := Nat.le_trans B4.size hq0
            have SZ1 : w0.heap.size ≤ g1 := Nat.le_trans B4.size hq1
            have SZ2 : w0.heap.size ≤ g2 := Nat.le_trans B4.size hq2
            have SZ3 : w0.heap.size ≤ g3 := Nat.le_trans B4.size hq3
            have QD := OwnD.four (own_mono OO0 SZ0) (own_mono (OO1.up (belT bm2 (belT bm3 (bm0)))) SZ1) (own_mono (OO2.up (belT bm3 (bm0))) SZ2) (own_mono (OO3.up (bm0)) SZ3) (by omega) (by omega) (by omega) (by omega) (by omega) (by omega) (dm0.size)
            subst hg0 hg1 hg2 hg3
            refine hK.out _ _ trivial (fun hHeld => ?_)
            clear hK K
            try simp only [Act.put, List.getElem_toArray, List.getElem_cons_zero, List.getElem_cons_succ, List.setIfInBounds_toArray, List.set_cons_zero, List.set_cons_succ]
            refine wpAnyH_take (i := 5) (oi := _) (v := ?_) rfl (by kernel_rfl) (by kernel_rfl) (by kernel_rfl) (fun _ _ _ h => h) (Or.inl ⟨by rfl, ?_⟩) (by assumption) ?_
            rotate_left
            · intro w hSw
              (try dsimp only at hSw)
              go_simp
              try with_reducible rfl
            try simp only [Act.put, List.getElem_toArray, List.getElem_cons_zero, List.getElem_cons_succ, List.setIfInBounds_toArray, List.set_cons_zero, List.set_cons_succ]
            refine wpAnyH_done (by kernel_rfl) ?_ _
            go_wp2
            go_meet
            case rel => exact ⟨Lib.hid ⟨[zero32, zero32, zero32, zero32], rfl, (fun p hp => by simp only [List.mem_cons, List.not_mem_nil, or_false, or_self] at hp; rw [hp]; rfl), QD⟩, belA1 dm0⟩
        · rw [if_pos (by rfl)]
          refine wp_make_bytes _ _ 37 rfl j0 Try.underlying37 hj hy0 hy1 hy2 .i64 .i64 32 rfl rfl (by decide) ?_
          intro wm3 OM3 bm3
          have dm3 : Below w0.heap.size w0 wm3 := belT dm1 bm3
          have sm3 : ∃ g, g = wm1.heap.size ∧ Own wm3 g (.slice (some ⟨g, 0, none⟩) 32 32) zero32 ∧ g < wm3.heap.size ∧ w4.heap.size ≤ g := ⟨wm1.heap.size, rfl, OM3, OM3.lt _ rfl, Nat.le_trans hq1 (Nat.le_of_lt hl1)⟩
          obtain ⟨g3, hg3, OO3, hl3, hq3⟩ := sm3
          refine hK.out _ _ trivial (fun hHeld => ?_)
          clear hK K
          try simp only [Act.put, List.getElem_toArray, List.getElem_cons_zero, List.getElem_cons_succ, List.setIfInBounds_toArray, List.set_cons_zero, List.set_cons_succ]
          refine wpAnyH_ready (rs := [0, 2]) (by kernel_rfl) (by simp) ?_
          refine AllReadyH.cons (o := _) rfl (fun K hK => ?_) (AllReadyH.cons (o := _) rfl (fun K hK => ?_) AllReadyH.nil)
          · rw [if_pos (by rfl)]
            refine wp_make_bytes _ _ 37 rfl j0 Try.underlying37 hj hy0 hy1 hy2 .i64 .i64 32 rfl rfl (by decide) ?_
            intro wm0 OM0 bm0
            have dm0 : Below w0.heap.size w0 wm0 := belT dm3 bm0
            have sm0 : ∃ g, g = wm3.heap.size ∧ Own wm0 g (.slice (some ⟨g, 0, none⟩) 32 32) zero32 ∧ g < wm0.heap.size ∧ w4.heap.size ≤ g := ⟨wm3.heap.size, rfl, OM0, OM0.lt _ rfl, Nat.le_trans hq3 (Nat.le_of_lt hl3)⟩
            obtain ⟨g0, hg0, OO0, hl0, hq0⟩ := sm0
            refine hK.out _ _ trivial (fun hHeld => ?_)
            clear hK K
            try simp only [Act.put, List.getElem_toArray, List.getElem_cons_zero, List.getElem_cons_succ, List.setIfInBounds_toArray, List.set_cons_zero, List.set_cons_succ]
            refine wpAnyH_ready (rs := [2]) (by kernel_rfl) (by simp) ?_
            refine AllReadyH.cons (o := _) rfl (fun K hK => ?_) AllReadyH.nil
            rw [if_pos (by rfl)]
            refine wp_make_bytes _ _ 37 rfl j0 Try.underlying37 hj hy0 hy1 hy2 .i64 .i64 32 rfl rfl (by decide) ?_
            intro wm2 OM2 bm2
            have dm2 : Below w0.heap.size w0 wm2 := belT dm0 bm2
            have sm2 : ∃ g, g = wm0.heap.size ∧ Own wm2 g (.slice (some ⟨g, 0, none⟩) 32 32) zero32 ∧ g < wm2.heap.size ∧ w4.heap.size ≤ g := ⟨wm0.heap.size, rfl, OM2, OM2.lt _ rfl, Nat.le_trans hq0 (Nat.le_of_lt hl0)⟩
            obtain ⟨g2, hg2, OO2, hl2, hq2⟩ := sm2
            refine hK.out _ _ trivial (fun hHeld => ?_)
            clear hK K
            try simp only [Act.put, List.getElem_toArray, List.getElem_cons_zero, List.getElem_cons_succ, List.setIfInBounds_toArray, List.set_cons_zero, List.set_cons_succ]
            refine wpAnyH_ready (rs := [4]) (by kernel_rfl) (by simp) ?_
            refine AllReadyH.cons (o := _) rfl (fun K hK => ?_) AllReadyH.nil
            go_simp
            have SZ0 : w0.heap.size ≤ g0 := Nat.le_trans B4.size hq0
            have SZ1 : w0.heap.size ≤ g1 := Nat.le_trans B4.size hq1
            have SZ2 : w0.heap.size ≤ g2 := Nat.le_trans B4.size hq2
            have SZ3 : w0.heap.size ≤ g3 := Nat.le_trans B4.size hq3
            have QD := OwnD.four (own_mono (OO0.up (bm2)) SZ0) (own_mono (OO1.up (belT bm3 (belT bm0 (bm2)))) SZ1) (own_mono OO2 SZ2) (own_mono (OO3.up (belT bm0 (bm2))) SZ3) (by omega) (by omega) (by omega) (by omega) (by omega) (by omega) (dm2.size)
            subst hg0 hg1 hg2 hg3
            refine hK.out _ _ trivial (fun hHeld => ?_)
            clear hK K
            try simp only [Act.put, List.getElem_toArray, List.getElem_cons_zero, List.getElem_cons_succ, List.setIfInBounds_toArray, List.set_cons_zero, List.set_cons_succ]
            refine wpAnyH_take (i := 5) (oi := _) (v := ?_) rfl (by kernel_rfl) (by kernel_rfl) (by kernel_rfl) (fun _ _ _ h => h) (Or.inl ⟨by rfl, ?_⟩) (by assumption) ?_
            rotate_left
            · intro w hSw
              (try dsimp only at hSw)
              go_simp
              try with_reducible rfl
            try simp only [Act.put, List.getElem_toArray, List.getElem_cons_zero, List.getElem_cons_succ, List.setIfInBounds_toArray, List.set_cons_zero, List.set_cons_succ]
            refine wpAnyH_done (by kernel_rfl) ?_ _
            go_wp2
            go_meet
            case rel => exact ⟨Lib.hid ⟨[zero32, zero32, zero32, zero32], rfl, (fun p hp => by simp only [List.mem_cons, List.not_mem_nil, or_false, or_self] at hp; rw [hp]; rfl), QD⟩, belA1 dm2⟩
          · rw [if_pos (by rfl)]
            refine wp_make_bytes _ _ 37 rfl j0 Try.underlying37 hj hy0 hy1 hy2 .i64 .i64 32 rfl rfl (by decide) ?_
            intro wm2 OM2 bm2
            have dm2 : Below w0.heap.size w0 wm2 := belT dm3 bm2
            have sm2 : ∃ g, g = wm3.heap.size ∧ Own wm2 g (.slice (some ⟨g, 0, none⟩) 32 32) zero32 ∧ g < wm2.heap.size ∧ w4.heap.size ≤ g := ⟨wm3.heap.size, rfl, OM2, OM2.lt _ rfl, Nat.le_trans hq3 (Nat.le_of_lt hl3)⟩
            obtain ⟨g2, hg2, OO2, hl2, hq2⟩ := sm2
            refine hK.out _ _ trivial (fun hHeld => ?_)
            clear hK K
            try simp only [Act.put, List.getElem_toArray, List.getElem_cons_zero, List.getElem_cons_succ, List.setIfInBounds_toArray, List.set_cons_zero, List.set_cons_succ]
            refine wpAnyH_ready (rs := [0]) (by kernel_rfl) (by simp) ?_
            refine AllReadyH.cons (o := _) rfl (fun K hK => ?_) AllReadyH.nil
            rw [if_pos (by rfl)]
            refine wp_make_bytes _ _ 37 rfl j0 Try.underlying37 hj hy0 hy1 hy2 .i64 .i64 32 rfl rfl (by decide) ?_
            intro wm0 OM0 bm0
            have dm0 : Below w0.heap.size w0 wm0 := belT dm2 bm0
            have sm0 : ∃ g, g = wm2.heap.size ∧ Own wm0 g (.slice (some ⟨g, 0, none⟩) 32 32) zero32 ∧ g < wm0.heap.size ∧ w4.heap.size ≤ g := ⟨wm2.heap.size, rfl, OM0, OM0.lt _ rfl, Nat.le_trans hq2 (Nat.le_of_lt hl2)⟩
            obtain ⟨g0, hg0, OO0, hl0, hq0⟩ := sm0
            refine hK.out _ _ trivial (fun hHeld => ?_)
            clear hK K
            try simp only [Act.put, List.getElem_toArray, List.getElem_cons_zero, List.getElem_cons_succ, List.setIfInBounds_toArray, List.set_cons_zero, List.set_cons_succ]
            refine wpAnyH_ready (rs := [4]) (by kernel_rfl) (by simp) ?_
            refine AllReadyH.cons (o := _) rfl (fun K hK => ?_) AllReadyH.nil
            go_simp
            have SZ0 : w0.heap.size ≤ g0 := Nat.le_trans B4.size hq0
            have SZ1 : w0.heap.size ≤ g1 := Nat.le_trans B4.size hq1
            have SZ2 : w0.heap.size ≤ g2 := Nat.le_trans B4.size hq2
            have SZ3 : w0.heap.size ≤ g3 := Nat.le_trans B4.size hq3
            have QD := OwnD.four (own_mono OO0 SZ0) (own_mono (OO1.up (belT bm3 (belT bm2 (bm0)))) SZ1) (own_mono (OO2.up (bm0)) SZ2) (own_mono (OO3.up (belT bm2 (bm0))) SZ3) (by omega) (by omega) (by omega) (by omega) (by omega) (by omega) (dm0.size)
            subst hg0 hg1 hg2 hg3
            refine hK.out _ _ trivial (fun hHeld => ?_)
            clear hK K
            try simp only [Act.put, List.getElem_toArray, List.getElem_cons_zero, List.getElem_cons_succ, List.setIfInBounds_toArray, List.set_cons_zero, List.set_cons_succ]
            refine wpAnyH_take (i := 5) (oi := _) (v := ?_) rfl (by kernel_rfl) (by kernel_rfl) (by kernel_rfl) (fun _ _ _ h => h) (Or.inl ⟨by rfl, ?_⟩) (by assumption) ?_
            rotate_left
            · intro w hSw
              (try dsimp only at hSw)
              go_simp
              try with_reducible rfl
            try simp only [Act.put, List.getElem_toArray, List.getElem_cons_zero, List.getElem_cons_succ, List.setIfInBounds_toArray, List.set_cons_zero, List.set_cons_succ]
            refine wpAnyH_done (by kernel_rfl) ?_ _
            go_wp2
            go_meet
            case rel => exact ⟨Lib.hid ⟨[zero32, zero32, zero32, zero32], rfl, (fun p hp => by simp only [List.mem_cons, List.not_mem_nil, or_false, or_self] at hp; rw [hp]; rfl), QD⟩, belA1 dm0⟩
      · rw [if_pos (by rfl)]
        refine wp_make_bytes _ _ 37 rfl j0 Try.underlying37 hj hy0 hy1 hy2 .i64 .i64 32 rfl rfl (by decide) ?_
        intro wm2 OM2 bm2
        have dm2 : Below w0.heap.size w0 wm2 := belT (belDr B4) bm2
        have sm2 : ∃ g, g = w4.heap.size ∧ Own wm2 g (.slice (some ⟨g, 0, none⟩) 32 32) zero32 ∧ g < wm2.heap.size ∧ w4.heap.size ≤ g := ⟨w4.heap.size, rfl, OM2, OM2.lt _ rfl, Nat.le_refl _⟩
        obtain ⟨g2, hg2, OO2, hl2, hq2⟩ := sm2
        refine hK.out _ _ trivial (fun hHeld => ?_)
        clear hK K
        try simp only [Act.put, List.getElem_toArray, List.getElem_cons_zero, List.getElem_cons_succ, List.setIfInBounds_toArray, List.set_cons_zero, List.set_cons_succ]
        refine wpAnyH_ready (rs := [0, 1, 3]) (by kernel_rfl) (by simp) ?_
        refine AllReadyH.cons (o := _) rfl (fun K hK => ?_) (AllReadyH.cons (o := _) rfl (fun K hK => ?_) (AllReadyH.cons (o := _) rfl (fun K hK => ?_) AllReadyH.nil))
        · rw [if_pos (by rfl)]
          refine wp_make_bytes _ _ 37 rfl j0 Try.underlying37 hj hy0 hy1 hy2 .i64 .i64 32 rfl rfl (by decide) ?_
          intro wm0 OM0 bm0
          have dm0 : Below w0.heap.size w0 wm0 := belT dm2 bm0
          have sm0 : ∃ g, g = wm2.heap.size ∧ Own wm0 g (.slice (some ⟨g, 0, none⟩) 32 32) zero32 ∧ g < wm0.heap.size ∧ w4.heap.size ≤ g := ⟨wm2.heap.size, rfl, OM0, OM0.lt _ rfl, Nat.le_trans hq2 (Nat.le_of_lt hl2)⟩
          obtain ⟨g0, hg0, OO0, hl0, hq0⟩ := sm0
          refine hK.out _ _ trivial (fun hHeld => ?_)
          clear hK K
          try simp only [Act.put, List.getElem_toArray, List.getElem_cons_zero, List.getElem_cons_succ, List.setIfInBounds_toArray, List.set_cons_zero, List.set_cons_succ]
          refine wpAnyH_ready (rs := [1, 3]) (by kernel_rfl) (by simp) ?_
          refine AllReadyH.cons (o := _) rfl (fun K hK => ?_) (AllReadyH.cons (o := _) rfl (fun K hK => ?_) AllReadyH.nil)
          · rw [if_pos (by rfl)]
            refine wp_make_bytes _ _ 37 rfl j0 Try.underlying37 hj hy0 hy1 hy2 .i64 .i64 32 rfl rfl (by decide) ?_
            intro wm1 OM1 bm1
            have dm1 : Below w0.heap.size w0 wm1 := belT dm0 bm1
            have sm1 : ∃ g, g = wm0.heap.size ∧ Own wm1 g (.slice (some ⟨g, 0, none⟩) 32 32) zero32 ∧ g < wm1.heap.size ∧ w4.heap.size ≤ g := ⟨wm0.heap.size, rfl, OM1, OM1.lt _ rfl, Nat.le_trans hq0 (Nat.le_of_lt hl0)⟩
            obtain ⟨g1, hg1, OO1, hl1, hq1⟩ := sm1
            refine hK.out _ _ trivial (fun hHeld => ?_)
            clear hK K
            try simp only [Act.put, List.getElem_toArray, List.getElem_cons_zero, List.getElem_cons_succ, List.setIfInBounds_toArray, List.set_cons_zero, List.set_cons_succ]
            refine wpAnyH_ready (rs := [3]) (by kernel_rfl) (by simp) ?_
            refine AllReadyH.cons (o := _) rfl (fun K hK => ?_) AllReadyH.nil
            rw [if_pos (by rfl)]
            refine wp_make_bytes _ _ 37 rfl j0 Try.underlying37 hj hy0 hy1 hy2 .i64 .i64 32 rfl rfl (by decide) ?_
            intro wm3 OM3 bm3
            have dm3 : Below w0.heap.size w0 wm3 := belT dm1 bm3
            have sm3 : ∃ g, g = wm1.heap.size ∧ Own wm3 g (.slice (some ⟨g, 0, none⟩) 32 32) zero32 ∧ g < wm3.heap.size ∧ w4.heap.size ≤ g := ⟨wm1.heap.size, rfl, OM3, OM3.lt _ rfl, Nat.le_trans hq1 (Nat.le_of_lt hl1)⟩
            obtain ⟨g3, hg3, OO3, hl3, hq3⟩ := sm3
            refine hK.out _ _ trivial (fun hHeld => ?_)
            clear hK K
            try simp only [Act.put, List.getElem_toArray, List.getElem_cons_zero, List.getElem_cons_succ, List.setIfInBounds_toArray, List.set_cons_zero, List.set_cons_succ]
            refine wpAnyH_ready (rs := [4]) (by kernel_rfl) (by simp) ?_
            refine AllReadyH.cons (o := _) rfl (fun K hK => ?_) AllReadyH.nil
            go_simp
            have SZ0 : w0.heap.size ≤ g0 := Nat.le_trans B4.size hq0
            have SZ1 : w0.heap.size ≤ g1 := Nat.le_trans B4.size hq1
            have SZ2 : w0.heap.size ≤ g2 := Nat.le_trans B4.size hq2
            have SZ3 : w0.heap.size ≤ g3 := Nat.le_trans B4.size hq3
            have QD := OwnD.four (own_mono (OO0.up (belT bm1 (bm3))) SZ0) (own_mono (OO1.up (bm3)) SZ1) (own_mono (OO2.up (belT bm0 (belT bm1 (bm3)))) SZ2) (own_mono OO3 SZ3) (by omega) (by omega) (by omega) (by omega) (by omega) (by omega) (dm3.size)
            subst hg0 hg1 hg2 hg3
            refine hK.out _ _ trivial (fun hHeld => ?_)
            clear hK K
            try simp only [Act.put, List.getElem_toArray, List.getElem_cons_zero, List.getElem_cons_succ, List.setIfInBounds_toArray, List.set_cons_zero, List.set_cons_succ]
            refine wpAnyH_take (i := 5) (oi := _) (v := ?_) rfl (by kernel_rfl) (by kernel_rfl) (by kernel_rfl) (fun _ _ _ h => h) (Or.inl ⟨by rfl, ?_⟩) (by assumption) ?_
            rotate_left
            · intro w hSw
              (try dsimp only at hSw)
              go_simp
              try with_reducible rfl
            try simp only [Act.put, List.getElem_toArray, List.getElem_cons_zero, List.getElem_cons_succ, List.setIfInBounds_toArray, List.set_cons_zero, List.set_cons_succ]
            refine wpAnyH_done (by kernel_rfl) ?_ _
            go_wp2
            go_meet
            case rel => exact ⟨Lib.hid ⟨[zero32, zero32, zero32, zero32], rfl, (fun p hp => by simp only [List.mem_cons, List.not_mem_nil, or_false, or_self] at hp; rw [hp]; rfl), QD⟩, belA1 dm3⟩
          · rw [if_pos (by rfl)]
            refine wp_make_bytes _ _ 37 rfl j0 Try.underlying37 hj hy0 hy1 hy2 .i64 .i64 32 rfl rfl (by decide) ?_
            intro wm3 OM3 bm3
            have dm3 : Below w0.heap.size w0 wm3 := belT dm0 bm3
            have sm3 : ∃ g, g = wm0.heap.size ∧ Own wm3 g (.slice (some ⟨g, 0, none⟩) 32 32) zero32 ∧ g < wm3.heap.size ∧ w4.heap.size ≤ g := ⟨wm0.heap.size, rfl, OM3, OM3.lt _ rfl, Nat.le_trans hq0 (Nat.le_of_lt hl0)⟩
            obtain ⟨g3, hg3, OO3, hl3, hq3⟩ := sm3
            refine hK.out _ _ trivial (fun hHeld => ?_)
            clear hK K
            try simp only [Act.put, List.getElem_toArray, List.getElem_cons_zero, List.getElem_cons_succ, List.setIfInBounds_toArray, List.set_cons_zero, List.set_cons_succ]
            refine wpAnyH_ready (rs := [1]) (by kernel_rfl) (by simp) ?_
            refine AllReadyH.cons (o := _) rfl (fun K hK => ?_) AllReadyH.nil
            rw [if_pos (by rfl)]
            refine wp_make_bytes _ _ 37 rfl j0 Try.underlying37 hj hy0 hy1 hy2 .i64 .i64 32 rfl rfl (by decide) ?_
            intro wm1 OM1 bm1
            have dm1 : Below w0.heap.size w0 wm1 := belT dm3 bm1
            have sm1 : ∃ g, g = wm3.heap.size ∧ Own wm1 g (.slice (some ⟨g, 0, none⟩) 32 32) zero32 ∧ g < wm1.heap.size ∧ w4.heap.size ≤ g := ⟨wm3.heap.size, rfl, OM1, OM1.lt _ rfl, Nat.le_trans hq3 (Nat.le_of_lt hl3)⟩
            obtain ⟨g1, hg1, OO1, hl1, hq1⟩ := sm1
            refine hK.out _ _ trivial (fun hHeld => ?_)
            clear hK K
            try simp only [Act.put, List.getElem_toArray, List.getElem_cons_zero, List.getElem_cons_succ, List.setIfInBounds_toArray, List.set_cons_zero, List.set_cons_succ]
            refine wpAnyH_ready (rs := [4]) (by kernel_rfl) (by simp) ?_
            refine AllReadyH.cons (o := _) rfl (fun K hK => ?_) AllReadyH.nil
            go_simp
            have SZ0 : w0.heap.size ≤ g0 := Nat.le_trans B4.size hq0
            have SZ1 : w0.heap.size ≤ g1 := Nat.le_trans B4.size hq1
            have SZ2 : w0.heap.size ≤ g2 := Nat.le_trans B4.size hq2
            have SZ3 : w0.heap.size ≤ g3 := Nat.le_trans B4.size hq3
            have QD := OwnD.four (own_mono (OO0.up (belT bm3 (bm1))) SZ0) (own_mono OO1 SZ1) (own_mono (OO2.up (belT bm0 (belT bm3 (bm1)))) SZ2) (own_mono (OO3.up (bm1)) SZ3) (by omega) (by omega) (by omega) (by omega) (by omega) (by omega) (dm1.size)
            subst hg0 hg1 hg2 hg3
            refine hK.out _ _ trivial (fun hHeld => ?_)
            clear hK K
            try simp only [Act.put, List.getElem_toArray, List.getElem_cons_zero, List.getElem_cons_succ, List.setIfInBounds_toArray, List.set_cons_zero, List.set_cons_succ]
            refine wpAnyH_take (i := 5) (oi := _) (v := ?_) rfl (by kernel_rfl) (by kernel_rfl) (by kernel_rfl) (fun _ _ _ h => h) (Or.inl ⟨by rfl, ?_⟩) (by assumption) ?_
            rotate_left
            · intro w hSw
              (try dsimp only at hSw)
              go_simp
              try with_reducible rfl
            try simp only [Act.put, List.getElem_toArray, List.getElem_cons_zero, List.getElem_cons_succ, List.setIfInBounds_toArray, List.set_cons_zero, List.set_cons_succ]
            refine wpAnyH_done (by kernel_rfl) ?_ _
            go_wp2
            go_meet
            case rel => exact ⟨Lib.hid ⟨[zero32, zero32, zero32, zero32], rfl, (fun p hp => by simp only [List.mem_cons, List.not_mem_nil, or_false, or_self] at hp; rw [hp]; rfl), QD⟩, belA1 dm1⟩
        · rw [if_pos (by rfl)]
          refine wp_make_bytes _ _ 37 rfl j0 Try.underlying37 hj hy0 hy1 hy2 .i64 .i64 32 rfl rfl (by decide) ?_
          intro wm1 OM1 bm1
          have dm1 : Below w0.heap.size w0 wm1 := belT dm2 bm1
          have sm1 : ∃ g, g = wm2.heap.size ∧ Own wm1 g (.slice (some ⟨g, 0, none⟩) 32 32) zero32 ∧ g < wm1.heap.size ∧ w4.heap.size ≤ g := ⟨wm2.heap.size, rfl, OM1, OM1.lt _ rfl, Nat.le_trans hq2 (Nat.le_of_lt hl2)⟩
          obtain ⟨g1, hg1, OO1, hl1, hq1⟩ := sm1
          refine hK.out _ _ trivial (fun hHeld => ?_)
          clear hK K
          try simp only [Act.put, List.getElem_toArray, List.getElem_cons_zero, List.getElem_cons_succ, List.setIfInBounds_toArray, List.set_cons_zero, List.set_cons_succ]
          refine wpAnyH_ready (rs := [0, 3]) (by kernel_rfl) (by simp) ?_
          refine AllReadyH.cons (o := _) rfl (fun K hK => ?_) (AllReadyH.cons (o := _) rfl (fun K hK => ?_) AllReadyH.nil)
          · rw [if_pos (by rfl)]
            refine wp_make_bytes _ _ 37 rfl j0 Try.underlying37 hj hy0 hy1 hy2 .i64 .i64 32 rfl rfl (by decide) ?_
            intro wm0 OM0 bm0
            have dm0 : Below w0.heap.size w0 wm0 := belT dm1 bm0
            have sm0 : ∃ g, g = wm1.heap.size ∧ Own wm0 g (.slice (some ⟨g, 0, none⟩) 32 32) zero32 ∧ g < wm0.heap.size ∧ w4.heap.size ≤ g := ⟨wm1.heap.size, rfl, OM0, OM0.lt _ rfl, Nat.le_trans hq1 (Nat.le_of_lt hl1)⟩
            obtain ⟨g0, hg0, OO0, hl0, hq0⟩ := sm0
            refine hK.out _ _ trivial (fun hHeld => ?_)
            clear hK K
            try simp only [Act.put, List.getElem_toArray, List.getElem_cons_zero, List.getElem_cons_succ, List.setIfInBounds_toArray, List.set_cons_zero, List.set_cons_succ]
            refine wpAnyH_ready (rs := [3]) (by kernel_rfl) (by simp) ?_
            refine AllReadyH.cons (o := _) rfl (fun K hK => ?_) AllReadyH.nil
            rw [if_pos (by rfl)]
            refine wp_make_bytes _ _ 37 rfl j0 Try.underlying37 hj hy0 hy1 hy2 .i64 .i64 32 rfl rfl (by decide) ?_
            intro wm3 OM3 bm3
            have dm3 : Below w0.heap.size w0 wm3 := belT dm0 bm3
            have sm3 : ∃ g, g = wm0.heap.size ∧ Own wm3 g (.slice (some ⟨g, 0, none⟩) 32 32) zero32 ∧ g < wm3.heap.size ∧ w4.heap.size ≤ g := ⟨wm0.heap.size, rfl, OM3, OM3.lt _ rfl, Nat.le_trans hq0 (Nat.le_of_lt hl0)⟩
            obtain ⟨g3, hg3, OO3, hl3, hq3⟩ := sm3
            refine hK.out _ _ trivial (fun hHeld => ?_)
            clear hK K
            try simp only [Act.put, List.getElem_toArray, List.getElem_cons_zero, List.getElem_cons_succ, List.setIfInBounds_toArray, List.set_cons_zero, List.set_cons_succ]
            refine wpAnyH_ready (rs := [4]) (by kernel_rfl) (by simp) ?_
            refine AllReadyH.cons (o := _) rfl (fun K hK => ?_) AllReadyH.nil
            go_simp
            have SZ0 : w0.heap.size ≤ g0 := Nat.le_trans B4.size hq0
            have SZ1 : w0.heap.size ≤ g1 := Nat.le_trans B4.size hq1
            have SZ2 : w0.heap.size ≤ g2 := Nat.le_trans B4.size hq2
            have SZ3 : w0.heap.size ≤ g3 := Nat.le_trans B4.size hq3
            have QD := OwnD.four (own_mono (OO0.up (bm3)) SZ0) (own_mono (OO1.up (belT bm0 (bm3))) SZ1) (own_mono (OO2.up (belT bm1 (belT bm0 (bm3)))) SZ2) (own_mono OO3 SZ3) (by omega) (by omega) (by omega) (by omega) (by omega) (by omega) (dm3.size)
            subst hg0 hg1 hg2 hg3
            refine hK.out _ _ trivial (fun hHeld => ?_)
            clear hK K
            try simp only [Act.put, List.getElem_toArray, List.getElem_cons_zero, List.getElem_cons_succ, List.setIfInBounds_toArray, List.set_cons_zero, List.set_cons_succ]
            refine wpAnyH_take (i := 5) (oi := _) (v := ?_) rfl (by kernel_rfl) (by kernel_rfl) (by kernel_rfl) (fun _ _ _ h => h) (Or.inl ⟨by rfl, ?_⟩) (by assumption) ?_
            rotate_left
            · intro w hSw
              (try dsimp only at hSw)
              go_simp
              try with_reducible rfl
            try simp only [Act.put, List.getElem_toArray, List.getElem_cons_zero, List.getElem_cons_succ, List.setIfInBounds_toArray, List.set_cons_zero, List.set_cons_succ]
            refine wpAnyH_done (by kernel_rfl) ?_ _
            go_wp2
            go_meet
            case rel => exact ⟨Lib.hid ⟨[zero32, zero32, zero32, zero32], rfl, (fun p hp => by simp only [List.mem_cons, List.not_mem_nil, or_false, or_self] at hp; rw [hp]; rfl), QD⟩, belA1 dm3⟩
          · rw [if_pos (by rfl)]
            refine wp_make_bytes _ _ 37 rfl j0 Try.underlying37 hj hy0 hy1 hy2 .i64 .i64 32 rfl rfl (by decide) ?_
            intro wm3 OM3 bm3
            have dm3 : Below w0.heap.size w0 wm3 := belT dm1 bm3
            have sm3 : ∃ g, g = wm1.heap.size ∧ Own wm3 g (.slice (some ⟨g, 0, none⟩) 32 32) zero32 ∧ g < wm3.heap.size ∧ w4.heap.size ≤ g := ⟨wm1.heap.size, rfl, OM3, OM3.lt _ rfl, Nat.le_trans hq1 (Nat.le_of_lt hl1)⟩
            obtain ⟨g3, hg3, OO3, hl3, hq3⟩ := sm3
            refine hK.out _ _ trivial (fun hHeld => ?_)
            clear hK K
            try simp only [Act.put, List.getElem_toArray, List.getElem_cons_zero, List.getElem_cons_succ, List.setIfInBounds_toArray, List.set_cons_zero, List.set_cons_succ]
            refine wpAnyH_ready (rs := [0]) (by kernel_rfl) (by simp) ?_
            refine AllReadyH.cons (o := _) rfl (fun K hK => ?_) AllReadyH.nil
            rw [if_pos (by rfl)]
            refine wp_make_bytes _ _ 37 rfl j0 Try.underlying37 hj hy0 hy1 hy2 .i64 .i64 32 rfl rfl (by decide) ?_
            intro wm0 OM0 bm0
            have dm0 : Below w0.heap.size w0 wm0 := belT dm3 bm0
            have sm0 : ∃ g, g = wm3.heap.size ∧ Own wm0 g (.slice (some ⟨g, 0, none⟩) 32 32) zero32 ∧ g < wm0.heap.size ∧ w4.heap.size ≤ g := ⟨wm3.heap.size, rfl, OM0, OM0.lt _ rfl, Nat.le_trans hq3 (Nat.le_of_lt hl3)⟩
            obtain ⟨g0, hg0, OO0, hl0, hq0⟩ := sm0
            refine hK.out _ _ trivial (fun hHeld => ?_)
            clear hK K
            try simp only [Act.put, List.getElem_toArray, List.getElem_cons_zero, List.getElem_cons_succ, List.setIfInBounds_toArray, List.set_cons_zero, List.set_cons_succ]
            refine wpAnyH_ready (rs := [4]) (by kernel_rfl) (by simp) ?_
            refine AllReadyH.cons (o := _) rfl (fun K hK => ?_) AllReadyH.nil
            go_simp
            have SZ0 : w0.heap.size ≤ g0 := Nat.le_trans B4.size hq0
            have SZ1 : w0.heap.size ≤ g1 := Nat.le_trans B4.size hq1
            have SZ2 : w0.heap.size ≤ g2 := Nat.le_trans B4.size hq2
            have SZ3 : w0.heap.size ≤ g3 := Nat.le_trans B4.size hq3
            have QD := OwnD.four (own_mono OO0 SZ0) (own_mono (OO1.up (belT bm3 (bm0))) SZ1) (own_mono (OO2.up (belT bm1 (belT bm3 (bm0)))) SZ2) (own_mono (OO3.up (bm0)) SZ3) (by omega) (by omega) (by omega) (by omega) (by omega) (by omega) (dm0.size)
            subst hg0 hg1 hg2 hg3
            refine hK.out _ _ trivial (fun hHeld => ?_)
            clear hK K
            try simp only [Act.put, List.getElem_toArray, List.getElem_cons_zero, List.getElem_cons_succ, List.setIfInBounds_toArray, List.set_cons_zero, List.set_cons_succ]
            refine wpAnyH_take (i := 5) (oi := _) (v := ?_) rfl (by kernel_rfl) (by kernel_rfl) (by kernel_rfl) (fun _ _ _ h => h) (Or.inl ⟨by rfl, ?_⟩) (by assumption) ?_
            rotate_left
            · intro w hSw
              (try dsimp only at hSw)
              go_simp
              try with_reducible rfl
            try simp only [Act.put, List.getElem_toArray, List.getElem_cons_zero, List.getElem_cons_succ, List.setIfInBounds_toArray, List.set_cons_zero, List.set_cons_succ]
            refine wpAnyH_done (by kernel_rfl) ?_ _
            go_wp2
            go_meet
            case rel => exact ⟨Lib.hid ⟨[zero32, zero32, zero32, zero32], rfl, (fun p hp => by simp only [List.mem_cons, List.not_mem_nil, or_false, or_self] at hp; rw [hp]; rfl), QD⟩, belA1 dm0⟩
        · rw [if_pos (by rfl)]
          refine wp_make_bytes _ _ 37 rfl j0 Try.underlying37 hj hy0 hy1 hy2 .i64 .i64 32 rfl rfl (by decide) ?_
          intro wm3 OM3 bm3
          have dm3 : Below w0.heap.size w0 wm3 := belT dm2 bm3
          have sm3 : ∃ g, g = wm2.heap.size ∧ Own wm3 g (.slice (some ⟨g, 0, none⟩) 32 32) zero32 ∧ g < wm3.heap.size ∧ w4.heap.size ≤ g := ⟨wm2.heap.size, rfl, OM3, OM3.lt _ rfl, Nat.le_trans hq2 (Nat.le_of_lt hl2)⟩
          obtain ⟨g3, hg3, OO3, hl3, hq3⟩ := sm3
          refine hK.out _ _ trivial (fun hHeld => ?_)
          clear hK K
          try simp only [Act.put, List.getElem_toArray, List.getElem_cons_zero, List.getElem_cons_succ, List.setIfInBounds_toArray, List.set_cons_zero, List.set_cons_succ]
          refine wpAnyH_ready (rs := [0, 1]) (by kernel_rfl) (by simp) ?_
          refine AllReadyH.cons (o := _) rfl (fun K hK => ?_) (AllReadyH.cons (o := _) rfl (fun K hK => ?_) AllReadyH.nil)
          · rw [if_pos (by rfl)]
            refine wp_make_bytes _ _ 37 rfl j0 Try.underlying37 hj hy0 hy1 hy2 .i64 .i64 32 rfl rfl (by decide) ?_
            intro wm0 OM0 bm0
            have dm0 : Below w0.heap.size w0 wm0 := belT dm3 bm0
            have sm0 : ∃ g, g = wm3.heap.size ∧ Own wm0 g (.slice (some ⟨g, 0, none⟩) 32 32) zero32 ∧ g < wm0.heap.size ∧ w4.heap.size ≤ g := ⟨wm3.heap.size, rfl, OM0, OM0.lt _ rfl, Nat.le_trans hq3 (Nat.le_of_lt hl3)⟩
            obtain ⟨g0, hg0, OO0, hl0, hq0⟩ := sm0
            refine hK.out _ _ trivial (fun hHeld => ?_)
            clear hK K
            try simp only [Act.put, List.getElem_toArray, List.getElem_cons_zero, List.getElem_cons_succ, List.setIfInBounds_toArray, List.set_cons_zero, List.set_cons_succ]
            refine wpAnyH_ready (rs := [1]) (by kernel_rfl) (by simp) ?_
            refine AllReadyH.cons (o := _) rfl (fun K hK => ?_) AllReadyH.nil
            rw [if_pos (by rfl)]
            refine wp_make_bytes _ _ 37 rfl j0 Try.underlying37 hj hy0 hy1 hy2 .i64 .i64 32 rfl rfl (by decide) ?_
            intro wm1 OM1 bm1
            have dm1 : Below w0.heap.size w0 wm1 := belT dm0 bm1
            have sm1 : ∃ g, g = wm0.heap.size ∧ Own wm1 g (.slice (some ⟨g, 0, none⟩) 32 32) zero32 ∧ g < wm1.heap.size ∧ w4.heap.size ≤ g := ⟨wm0.heap.size, rfl, OM1, OM1.lt _ rfl, Nat.le_trans hq0 (Nat.le_of_lt hl0)⟩
            obtain ⟨g1, hg1, OO1, hl1, hq1⟩ := sm1
            refine hK.out _ _ trivial (fun hHeld => ?_)
            clear hK K
            try simp only [Act.put, List.getElem_toArray, List.getElem_cons_zero, List.getElem_cons_succ, List.setIfInBounds_toArray, List.set_cons_zero, List.set_cons_succ]
            refine wpAnyH_ready (rs := [4]) (by kernel_rfl) (by simp) ?_
            refine AllReadyH.cons (o := _) rfl (fun K hK => ?_) AllReadyH.nil
            go_simp
            have SZ0 : w0.heap.size ≤ g0 := Nat.le_trans B4.size hq0
            have SZ1 : w0.heap.size ≤ g1 := Nat.le_trans B4.size hq1
            have SZ2 : w0.heap.size ≤ g2 := Nat.le_trans B4.size hq2
            have SZ3 : w0.heap.size ≤ g3 := Nat.le_trans B4.size hq3
            have QD := OwnD.four (own_mono (OO0.up (bm1)) SZ0) (own_mono OO1 SZ1) (own_mono (OO2.up (belT bm3 (belT bm0 (bm1)))) SZ2) (own_mono (OO3.up (belT bm0 (bm1))) SZ3) (by omega) (by omega) (by omega) (by omega) (by omega) (by omega) (dm1.size)
            subst hg0 hg1 hg2 hg3
            refine hK.out _ _ trivial (fun hHeld => ?_)
            clear hK K
            try simp only [Act.put, List.getElem_toArray, List.getElem_cons_zero, List.getElem_cons_succ, List.setIfInBounds_toArray, List.set_cons_zero, List.set_cons_succ]
            refine wpAnyH_take (i := 5) (oi := _) (v := ?_) rfl (by kernel_rfl) (by kernel_rfl) (by kernel_rfl) (fun _ _ _ h => h) (Or.inl ⟨by rfl, ?_⟩) (by assumption) ?_
            rotate_left
            · intro w hSw
              (try dsimp only at hSw)
              go_simp
              try with_reducible rfl
            try simp only [Act.put, List.getElem_toArray, List.getElem_cons_zero, List.getElem_cons_succ, List.setIfInBounds_toArray, List.set_cons_zero, List.set_cons_succ]
            refine wpAnyH_done (by kernel_rfl) ?_ _
            go_wp2
            go_meet
            case rel => exact ⟨Lib.hid ⟨[zero32, zero32, zero32, zero32], rfl, (fun p hp => by simp only [List.mem_cons, List.not_mem_nil, or_false, or_self] at hp; rw [hp]; rfl), QD⟩, belA1 dm1⟩
          · rw [if_pos (by rfl)]
            refine wp_make_bytes _ _ 37 rfl j0 Try.underlying37 hj hy0 hy1 hy2 .i64 .i64 32 rfl rfl (by decide) ?_
            intro wm1 OM1 bm1
            have dm1 : Below w0.heap.size w0 wm1 := belT dm3 bm1
            have sm1 : ∃ g, g = wm3.heap.size ∧ Own wm1 g (.slice (some ⟨g, 0, none⟩) 32 32) zero32 ∧ g < wm1.heap.size ∧ w4.heap.size ≤ g := ⟨wm3.heap.size, rfl, OM1, OM1.lt _ rfl, Nat.le_trans hq3 (Nat.le_of_lt hl3)⟩
            obtain ⟨g1, hg1, OO1, hl1, hq1⟩ := sm1
            refine hK.out _ _ trivial (fun hHeld => ?_)
            clear hK K
            try simp only [Act.put, List.getElem_toArray, List.getElem_cons_zero, List.getElem_cons_succ, List.setIfInBounds_toArray, List.set_cons_zero, List.set_cons_succ]
            refine wpAnyH_ready (rs := [0]) (by kernel_rfl) (by simp) ?_
            refine AllReadyH.cons (o := _) rfl (fun K hK => ?_) AllReadyH.nil
            rw [if_pos (by rfl)]
            refine wp_make_bytes _ _ 37 rfl j0 Try.underlying37 hj hy0 hy1 hy2 .i64 .i64 32 rfl rfl (by decide) ?_
            intro wm0 OM0 bm0
            have dm0 : Below w0.heap.size w0 wm0 := belT dm1 bm0
            have sm0 : ∃ g, g = wm1.heap.size ∧ Own wm0 g (.slice (some ⟨g, 0, none⟩) 32 32) zero32 ∧ g < wm0.heap.size ∧ w4.heap.size ≤ g := ⟨wm1.heap.size, rfl, OM0, OM0.lt _ rfl, Nat.le_trans hq1 (Nat.le_of_lt hl1)⟩
            obtain ⟨g0, hg0, OO0, hl0, hq0⟩ := sm0
            refine hK.out _ _ trivial (fun hHeld => ?_)
            clear hK K
            try simp only [Act.put, List.getElem_toArray, List.getElem_cons_zero, List.getElem_cons_succ, List.setIfInBounds_toArray, List.set_cons_zero, List.set_cons_succ]
            refine wpAnyH_ready (rs := [4]) (by kernel_rfl) (by simp) ?_
            refine AllReadyH.cons (o := _) rfl (fun K hK => ?_) AllReadyH.nil
            go_simp
            have SZ0 : w0.heap.size ≤ g0 := Nat.le_trans B4.size hq0
            have SZ1 : w0.heap.size ≤ g1 := Nat.le_trans B4.size hq1
            have SZ2 : w0.heap.size ≤ g2 := Nat.le_trans B4.size hq2
            have SZ3 : w0.heap.size ≤ g3 := Nat.le_trans B4.size hq3
            have QD := OwnD.four (own_mono OO0 SZ0) (own_mono (OO1.up (bm0)) SZ1) (own_mono (OO2.up (belT bm3 (belT bm1 (bm0)))) SZ2) (own_mono (OO3.up (belT bm1 (bm0))) SZ3) (by omega) (by omega) (by omega) (by omega) (by omega) (by omega) (dm0.size)
            subst hg0 hg1 hg2 hg3
            refine hK.out _ _ trivial (fun hHeld => ?_)
            clear hK K
            try simp only [Act.put, List.getElem_toArray, List.getElem_cons_zero, List.getElem_cons_succ, List.setIfInBounds_toArray, List.set_cons_zero, List.set_cons_succ]
            refine wpAnyH_take (i := 5) (oi := _) (v := ?_) rfl (by kernel_rfl) (by kernel_rfl) (by kernel_rfl) (fun _ _ _ h => h) (Or.inl ⟨by rfl, ?_⟩) (by assumption) ?_
            rotate_left
            · intro w hSw
              (try dsimp only at hSw)
              go_simp
              try with_reducible rfl
            try simp only [Act.put, List.getElem_toArray, List.getElem_cons_zero, List.getElem_cons_succ, List.setIfInBounds_toArray, List.set_cons_zero, List.set_cons_succ]
            refine wpAnyH_done (by kernel_rfl) ?_ _
            go_wp2
            go_meet
            case rel => exact ⟨Lib.hid ⟨[zero32, zero32, zero32, zero32], rfl, (fun p hp => by simp only [List.mem_cons, List.not_mem_nil, or_false, or_self] at hp; rw [hp]; rfl), QD⟩, belA1 dm0⟩
      · rw [if_pos (by rfl)]
        refine wp_make_bytes _ _ 37 rfl j0 Try.underlying37 hj hy0 hy1 hy2 .i64 .i64 32 rfl rfl (by decide) ?_
        intro wm3 OM3 bm3
        have dm3 : Below w0.heap.size w0 wm3 := belT (belDr B4) bm3
        have sm3 : ∃ g, g = w4.heap.size ∧ Own wm3 g (.slice (some ⟨g, 0, none⟩) 32 32) zero32 ∧ g < wm3.heap.size ∧ w4.heap.size ≤ g := ⟨w4.heap.size, rfl, OM3, OM3.lt _ rfl, Nat.le_refl _⟩
        obtain ⟨g3, hg3, OO3, hl3, hq3⟩ := sm3
        refine hK.out _ _ trivial (fun hHeld => ?_)
        clear hK K
        try simp only [Act.put, List.getElem_toArray, List.getElem_cons_zero, List.getElem_cons_succ, List.setIfInBounds_toArray, List.set_cons_zero, List.set_cons_succ]
        refine wpAnyH_ready (rs := [0, 1, 2]) (by kernel_rfl) (by simp) ?_
        refine AllReadyH.cons (o := _) rfl (fun K hK => ?_) (AllReadyH.cons (o := _) rfl (fun K hK => ?_) (AllReadyH.cons (o := _) rfl (fun K hK => ?_) AllReadyH.nil))
        · rw [if_pos (by rfl)]
          refine wp_make_bytes _ _ 37 rfl j0 Try.underlying37 hj hy0 hy1 hy2 .i64 .i64 32 rfl rfl (by decide) ?_
          intro wm0 OM0 bm0
          have dm0 : Below w0.heap.size w0 wm0 := belT dm3 bm0
          have sm0 : ∃ g, g = wm3.heap.size ∧ Own wm0 g (.slice (some ⟨g, 0, none⟩) 32 32) zero32 ∧ g < wm0.heap.size ∧ w4.heap.size ≤ g := ⟨wm3.heap.size, rfl, OM0, OM0.lt _ rfl, Nat.le_trans hq3 (Nat.le_of_lt hl3)⟩
          obtain ⟨g0, hg0, OO0, hl0, hq0⟩ := sm0
          refine hK.out _ _ trivial (fun hHeld => ?_)
          clear hK K
          try simp only [Act.put, List.getElem_toArray, List.getElem_cons_zero, List.getElem_cons_succ, List.setIfInBounds_toArray, List.set_cons_zero, List.set_cons_succ]
          refine wpAnyH_ready (rs := [1, 2]) (by kernel_rfl) (by simp) ?_
          refine AllReadyH.cons (o := _) rfl (fun K hK => ?_) (AllReadyH.cons (o := _) rfl (fun K hK => ?_) AllReadyH.nil)
          · rw [if_pos (by rfl)]
            refine wp_make_bytes _ _ 37 rfl j0 Try.underlying37 hj hy0 hy1 hy2 .i64 .i64 32 rfl rfl (by decide) ?_
            intro wm1 OM1 bm1
            have dm1 : Below w0.heap.size w0 wm1 := belT dm0 bm1
            have sm1 : ∃ g, g = wm0.heap.size ∧ Own wm1 g (.slice (some ⟨g, 0, none⟩) 32 32) zero32 ∧ g < wm1.heap.size ∧ w4.heap.size ≤ g := ⟨wm0.heap.size, rfl, OM1, OM1.lt _ rfl, Nat.le_trans hq0 (Nat.le_of_lt hl0)⟩
            obtain ⟨g1, hg1, OO1, hl1, hq1⟩ := sm1
            refine hK.out _ _ trivial (fun hHeld => ?_)
            clear hK K
            try simp only [Act.put, List.getElem_toArray, List.getElem_cons_zero, List.getElem_cons_succ, List.setIfInBounds_toArray, List.set_cons_zero, List.set_cons_succ]
            refine wpAnyH_ready (rs := [2]) (by kernel_rfl) (by simp) ?_
            refine AllReadyH.cons (o := _) rfl (fun K hK => ?_) AllReadyH.nil
            rw [if_pos (by rfl)]
            refine wp_make_bytes _ _ 37 rfl j0 Try.underlying37 hj hy0 hy1 hy2 .i64 .i64 32 rfl rfl (by decide) ?_
            intro wm2 OM2 bm2
            have dm2 : Below w0.heap.size w0 wm2 := belT dm1 bm2
            have sm2 : ∃ g, g = wm1.heap.size ∧ Own wm2 g (.slice (some ⟨g, 0, none⟩) 32 32) zero32 ∧ g < wm2.heap.size ∧ w4.heap.size ≤ g := ⟨wm1.heap.size, rfl, OM2, OM2.lt _ rfl, Nat.le_trans hq1 (Nat.le_of_lt hl1)⟩
            obtain ⟨g2, hg2, OO2, hl2, hq2⟩ := sm2
            refine hK.out _ _ trivial (fun hHeld => ?_)
            clear hK K
            try simp only [Act.put, List.getElem_toArray, List.getElem_cons_zero, List.getElem_cons_succ, List.setIfInBounds_toArray, List.set_cons_zero, List.set_cons_succ]
            refine wpAnyH_ready (rs := [4]) (by kernel_rfl) (by simp) ?_
            refine AllReadyH.cons (o := _) rfl (fun K hK => ?_) AllReadyH.nil
            go_simp
            have SZ0 : w0.heap.size ≤ g0 := Nat.le_trans B4.size hq0
            have SZ1 : w0.heap.size ≤ g1 := Nat.le_trans B4.size hq1
            have SZ2 : w0.heap.size ≤ g2 := Nat.le_trans B4.size hq2
            have SZ3 : w0.heap.size ≤ g3 := Nat.le_trans B4.size hq3
            have QD := OwnD.four (own_mono (OO0.up (belT bm1 (bm2))) SZ0) (own_mono (OO1.up (bm2)) SZ1) (own_mono OO2 SZ2) (own_mono (OO3.up (belT bm0 (belT bm1 (bm2)))) SZ3) (by omega) (by omega) (by omega) (by omega) (by omega) (by omega) (dm2.size)
            subst hg0 hg1 hg2 hg3
            refine hK.out _ _ trivial (fun hHeld => ?_)
            clear hK K
            try simp only [Act.put, List.getElem_toArray, List.getElem_cons_zero, List.getElem_cons_succ, List.setIfInBounds_toArray, List.set_cons_zero, List.set_cons_succ]
            refine wpAnyH_take (i := 5) (oi := _) (v := ?_) rfl (by kernel_rfl) (by kernel_rfl) (by kernel_rfl) (fun _ _ _ h => h) (Or.inl ⟨by rfl, ?_⟩) (by assumption) ?_
            rotate_left
            · intro w hSw
              (try dsimp only at hSw)
              go_simp
              try with_reducible rfl
            try simp only [Act.put, List.getElem_toArray, List.getElem_cons_zero, List.getElem_cons_succ, List.setIfInBounds_toArray, List.set_cons_zero, List.set_cons_succ]
            refine wpAnyH_done (by kernel_rfl) ?_ _
            go_wp2
            go_meet
            case rel => exact ⟨Lib.hid ⟨[zero32, zero32, zero32, zero32], rfl, (fun p hp => by simp only [List.mem_cons, List.not_mem_nil, or_false, or_self] at hp; rw [hp]; rfl), QD⟩, belA1 dm2⟩
          · rw [if_pos (by rfl)]
            refine wp_make_bytes _ _ 37 rfl j0 Try.underlying37 hj hy0 hy1 hy2 .i64 .i64 32 rfl rfl (by decide) ?_
            intro wm2 OM2 bm2
            have dm2 : Below w0.heap.size w0 wm2 := belT dm0 bm2
            have sm2 : ∃ g, g = wm0.heap.size ∧ Own wm2 g (.slice (some ⟨g, 0, none⟩) 32 32) zero32 ∧ g < wm2.heap.size ∧ w4.heap.size ≤ g := ⟨wm0.heap.size, rfl, OM2, OM2.lt _ rfl, Nat.le_trans hq0 (Nat.le_of_lt hl0)⟩
            obtain ⟨g2, hg2, OO2, hl2, hq2⟩ := sm2
            refine hK.out _ _ trivial (fun hHeld => ?_)
            clear hK K
            try simp only [Act.put, List.getElem_toArray, List.getElem_cons_zero, List.getElem_cons_succ, List.setIfInBounds_toArray, List.set_cons_zero, List.set_cons_succ]
            refine wpAnyH_ready (rs := [1]) (by kernel_rfl) (by simp) ?_
            refine AllReadyH.cons (o := _) rfl (fun K hK => ?_) AllReadyH.nil
            rw [if_pos (by rfl)]
            refine wp_make_bytes _ _ 37 rfl j0 Try.underlying37 hj hy0 hy1 hy2 .i64 .i64 32 rfl rfl (by decide) ?_
            intro wm1 OM1 bm1
            have dm1 : Below w0.heap.size w0 wm1 := belT dm2 bm1
            have sm1 : ∃ g, g = wm2.heap.size ∧ Own wm1 g (.slice (some ⟨g, 0, none⟩) 32 32) zero32 ∧ g < wm1.heap.size ∧ w4.heap.size ≤ g := ⟨wm2.heap.size, rfl, OM1, OM1.lt _ rfl, Nat.le_trans hq2 (Nat.le_of_lt hl2)⟩
            obtain ⟨g1, hg1, OO1, hl1, hq1⟩ := sm1
            refine hK.out _ _ trivial (fun hHeld => ?_)
            clear hK K
            try simp only [Act.put, List.getElem_toArray, List.getElem_cons_zero, List.getElem_cons_succ, List.setIfInBounds_toArray, List.set_cons_zero, List.set_cons_succ]
            refine wpAnyH_ready (rs := [4]) (by kernel_rfl) (by simp) ?_
            refine AllReadyH.cons (o := _) rfl (fun K hK => ?_) AllReadyH.nil
            go_simp
            have SZ0 : w0.heap.size ≤ g0 := Nat.le_trans B4.size hq0
            have SZ1 : w0.heap.size ≤ g1 := Nat.le_trans B4.size hq1
            have SZ2 : w0.heap.size ≤ g2 := Nat.le_trans B4.size hq2
            have SZ3 : w0.heap.size ≤ g3 := Nat.le_trans B4.size hq3
            have QD := OwnD.four (own_mono (OO0.up (belT bm2 (bm1))) SZ0) (own_mono OO1 SZ1) (own_mono (OO2.up (bm1)) SZ2) (own_mono (OO3.up (belT bm0 (belT bm2 (bm1)))) SZ3) (by omega) (by omega) (by omega) (by omega) (by omega) (by omega) (dm1.size)
            subst hg0 hg1 hg2 hg3
            refine hK.out _ _ trivial (fun hHeld => ?_)
            clear hK K
            try simp only [Act.put, List.getElem_toArray, List.getElem_cons_zero, List.getElem_cons_succ, List.setIfInBounds_toArray, List.set_cons_zero, List.set_cons_succ]
            refine wpAnyH_take (i := 5) (oi := _) (v := ?_) rfl (by kernel_rfl) (by kernel_rfl) (by kernel_rfl) (fun _ _ _ h => h) (Or.inl ⟨by rfl, ?_⟩) (by assumption) ?_
            rotate_left
            · intro w hSw
              (try dsimp only at hSw)
              go_simp
              try with_reducible rfl
            try simp only [Act.put, List.getElem_toArray, List.getElem_cons_zero, List.getElem_cons_succ, List.setIfInBounds_toArray, List.set_cons_zero, List.set_cons_succ]
            refine wpAnyH_done (by kernel_rfl) ?_ _
            go_wp2
            go_meet
            case rel => exact ⟨Lib.hid ⟨[zero32, zero32, zero32, zero32], rfl, (fun p hp => by simp only [List.mem_cons, List.not_mem_nil, or_false, or_self] at hp; rw [hp]; rfl), QD⟩, belA1 dm1⟩
        · rw [if_pos (by rfl)]
          refine wp_make_bytes _ _ 37 rfl j0 Try.underlying37 hj hy0 hy1 hy2 .i64 .i64 32 rfl rfl (by decide) ?_
          intro wm1 OM1 bm1
          have dm1 : Below w0.heap.size w0 wm1 := belT dm3 bm1
          have sm1 : ∃ g, g = wm3.heap.size ∧ Own wm1 g (.slice (some ⟨g, 0, none⟩) 32 32) zero32 ∧ g < wm1.heap.size ∧ w4.heap.size ≤ g := ⟨wm3.heap.size, rfl, OM1, OM1.lt _ rfl, Nat.le_trans hq3 (Nat.le_of_lt hl3)⟩
          obtain ⟨g1, hg1, OO1, hl1, hq1⟩ := sm1
          refine hK.out _ _ trivial (fun hHeld => ?_)
          clear hK K
          try simp only [Act.put, List.getElem_toArray, List.getElem_cons_zero, List.getElem_cons_succ, List.setIfInBounds_toArray, List.set_cons_zero, List.set_cons_succ]
          refine wpAnyH_ready (rs := [0, 2]) (by kernel_rfl) (by simp) ?_
          refine AllReadyH.cons (o := _) rfl (fun K hK => ?_) (AllReadyH.cons (o := _) rfl (fun K hK => ?_) AllReadyH.nil)
          · rw [if_pos (by rfl)]
            refine wp_make_bytes _ _ 37 rfl j0 Try.underlying37 hj hy0 hy1 hy2 .i64 .i64 32 rfl rfl (by decide) ?_
            intro wm0 OM0 bm0
            have dm0 : Below w0.heap.size w0 wm0 := belT dm1 bm0
            have sm0 : ∃ g, g = wm1.heap.size ∧ Own wm0 g (.slice (some ⟨g, 0, none⟩) 32 32) zero32 ∧ g < wm0.heap.size ∧ w4.heap.size ≤ g := ⟨wm1.heap.size, rfl, OM0, OM0.lt _ rfl, Nat.le_trans hq1 (Nat.le_of_lt hl1)⟩
            obtain ⟨g0, hg0, OO0, hl0, hq0⟩ := sm0
            refine hK.out _ _ trivial (fun hHeld => ?_)
            clear hK K
            try simp only [Act.put, List.getElem_toArray, List.getElem_cons_zero, List.getElem_cons_succ, List.setIfInBounds_toArray, List.set_cons_zero, List.set_cons_succ]
            refine wpAnyH_ready (rs := [2]) (by kernel_rfl) (by simp) ?_
            refine AllReadyH.cons (o := _) rfl (fun K hK => ?_) AllReadyH.nil
            rw [if_pos (by rfl)]
            refine wp_make_bytes _ _ 37 rfl j0 Try.underlying37 hj hy0 hy1 hy2 .i64 .i64 32 rfl rfl (by decide) ?_
            intro wm2 OM2 bm2
            have dm2 : Below w0.heap.size w0 wm2 := belT dm0 bm2
            have sm2 : ∃ g, g = wm0.heap.size ∧ Own wm2 g (.slice (some ⟨g, 0, none⟩) 32 32) zero32 ∧ g < wm2.heap.size ∧ w4.heap.size ≤ g := ⟨wm0.heap.size, rfl, OM2, OM2.lt _ rfl, Nat.le_trans hq0 (Nat.le_of_lt hl0)⟩
            obtain ⟨g2, hg2, OO2, hl2, hq2⟩ := sm2
            refine hK.out _ _ trivial (fun hHeld => ?_)
            clear hK K
            try simp only [Act.put, List.getElem_toArray, List.getElem_cons_zero, List.getElem_cons_succ, List.setIfInBounds_toArray, List.set_cons_zero, List.set_cons_succ]
            refine wpAnyH_ready (rs := [4]) (by kernel_rfl) (by simp) ?_
            refine AllReadyH.cons (o := _) rfl (fun K hK => ?_) AllReadyH.nil
            go_simp
            have SZ0 : w0.heap.size ≤ g0 := Nat.le_trans B4.size hq0
            have SZ1 : w0.heap.size ≤ g1 := Nat.le_trans B4.size hq1
            have SZ2 : w0.heap.size ≤ g2 := Nat.le_trans B4.size hq2
            have SZ3 : w0.heap.size ≤ g3 := Nat.le_trans B4.size hq3
            have QD := OwnD.four (own_mono (OO0.up (bm2)) SZ0) (own_mono (OO1.up (belT bm0 (bm2))) SZ1) (own_mono OO2 SZ2) (own_mono (OO3.up (belT bm1 (belT bm0 (bm2)))) SZ3) (by omega) (by omega) (by omega) (by omega) (by omega) (by omega) (dm2.size)
            subst hg0 hg1 hg2 hg3
            refine hK.out _ _ trivial (fun hHeld => ?_)
            clear hK K
            try simp only [Act.put, List.getElem_toArray, List.getElem_cons_zero, List.getElem_cons_succ, List.setIfInBounds_toArray, List.set_cons_zero, List.set_cons_succ]
            refine wpAnyH_take (i := 5) (oi := _) (v := ?_) rfl (by kernel_rfl) (by kernel_rfl) (by kernel_rfl) (fun _ _ _ h => h) (Or.inl ⟨by rfl, ?_⟩) (by assumption) ?_
            rotate_left
            · intro w hSw
              (try dsimp only at hSw)
              go_simp
              try with_reducible rfl
            try simp only [Act.put, List.getElem_toArray, List.getElem_cons_zero, List.getElem_cons_succ, List.setIfInBounds_toArray, List.set_cons_zero, List.set_cons_succ]
            refine wpAnyH_done (by kernel_rfl) ?_ _
            go_wp2
            go_meet
            case rel => exact ⟨Lib.hid ⟨[zero32, zero32, zero32, zero32], rfl, (fun p hp => by simp only [List.mem_cons, List.not_mem_nil, or_false, or_self] at hp; rw [hp]; rfl), QD⟩, belA1 dm2⟩
          · rw [if_pos (by rfl)]
            refine wp_make_bytes _ _ 37 rfl j0 Try.underlying37 hj hy0 hy1 hy2 .i64 .i64 32 rfl rfl (by decide) ?_
            intro wm2 OM2 bm2
            have dm2 : Below w0.heap.size w0 wm2 := belT dm1 bm2
            have sm2 : ∃ g, g = wm1.heap.size ∧ Own wm2 g (.slice (some ⟨g, 0, none⟩) 32 32) zero32 ∧ g < wm2.heap.size ∧ w4.heap.size ≤ g := ⟨wm1.heap.size, rfl, OM2, OM2.lt _ rfl, Nat.le_trans hq1 (Nat.le_of_lt hl1)⟩
            obtain ⟨g2, hg2, OO2, hl2, hq2⟩ := sm2
            refine hK.out _ _ trivial (fun hHeld => ?_)
            clear hK K
            try simp only [Act.put, List.getElem_toArray, List.getElem_cons_zero, List.getElem_cons_succ, List.setIfInBounds_toArray, List.set_cons_zero, List.set_cons_succ]
            refine wpAnyH_ready (rs := [0]) (by kernel_rfl) (by simp) ?_
            refine AllReadyH.cons (o := _) rfl (fun K hK => ?_) AllReadyH.nil
            rw [if_pos (by rfl)]
            refine wp_make_bytes _ _ 37 rfl j0 Try.underlying37 hj hy0 hy1 hy2 .i64 .i64 32 rfl rfl (by decide) ?_
            intro wm0 OM0 bm0
            have dm0 : Below w0.heap.size w0 wm0 := belT dm2 bm0
            have sm0 : ∃ g, g = wm2.heap.size ∧ Own wm0 g (.slice (some ⟨g, 0, none⟩) 32 32) zero32 ∧ g < wm0.heap.size ∧ w4.heap.size ≤ g := ⟨wm2.heap.size, rfl, OM0, OM0.lt _ rfl, Nat.le_trans hq2 (Nat.le_of_lt hl2)⟩
            obtain ⟨g0, hg0, OO0, hl0, hq0⟩ := sm0
            refine hK.out _ _ trivial (fun hHeld => ?_)
            clear hK K
            try simp only [Act.put, List.getElem_toArray, List.getElem_cons_zero, List.getElem_cons_succ, List.setIfInBounds_toArray, List.set_cons_zero, List.set_cons_succ]
            refine wpAnyH_ready (rs := [4]) (by kernel_rfl) (by simp) ?_
            refine AllReadyH.cons (o := _) rfl (fun K hK => ?_) AllReadyH.nil
            go_simp
            have SZ0 : w0.heap.size ≤ g0 := Nat.le_trans B4.size hq0
            have SZ1 : w0.heap.size ≤ g1 := Nat.le_trans B4.size hq1
            have SZ2 : w0.heap.size ≤ g2 := Nat.le_trans B4.size hq2
            have SZ3 : w0.heap.size ≤ g3 := Nat.le_trans B4.size hq3
            have QD := OwnD.four (own_mono OO0 SZ0) (own_mono (OO1.up (belT bm2 (bm0))) SZ1) (own_mono (OO2.up (bm0)) SZ2) (own_mono (OO3.up (belT bm1 (belT bm2 (bm0)))) SZ3) (by omega) (by omega) (by omega) (by omega) (by omega) (by omega) (dm0.size)
            subst hg0 hg1 hg2 hg3
            refine hK.out _ _ trivial (fun hHeld => ?_)
            clear hK K
            try simp only [Act.put, List.getElem_toArray, List.getElem_cons_zero, List.getElem_cons_succ, List.setIfInBounds_toArray, List.set_cons_zero, List.set_cons_succ]
            refine wpAnyH_take (i := 5) (oi := _) (v := ?_) rfl (by kernel_rfl) (by kernel_rfl) (by kernel_rfl) (fun _ _ _ h => h) (Or.inl ⟨by rfl, ?_⟩) (by assumption) ?_
            rotate_left
            · intro w hSw
              (try dsimp only at hSw)
              go_simp
              try with_reducible rfl
            try simp only [Act.put, List.getElem_toArray, List.getElem_cons_zero, List.getElem_cons_succ, List.setIfInBounds_toArray, List.set_cons_zero, List.set_cons_succ]
            refine wpAnyH_done (by kernel_rfl) ?_ _
            go_wp2
            go_meet
            case rel => exact ⟨Lib.hid ⟨[zero32, zero32, zero32, zero32], rfl, (fun p hp => by simp only [List.mem_cons, List.not_mem_nil, or_false, or_self] at hp; rw [hp]; rfl), QD⟩, belA1 dm0⟩
        · rw [if_pos (by rfl)]
          refine wp_make_bytes _ _ 37 rfl j0 Try.underlying37 hj hy0 hy1 hy2 .i64 .i64 32 rfl rfl (by decide) ?_
          intro wm2 OM2 bm2
          have dm2 : Below w0.heap.size w0 wm2 := belT dm3 bm2
          have sm2 : ∃ g, g = wm3.heap.size ∧ Own wm2 g (.slice (some ⟨g, 0, none⟩) 32 32) zero32 ∧ g < wm2.heap.size ∧ w4.heap.size ≤ g := ⟨wm3.heap.size, rfl, OM2, OM2.lt _ rfl, Nat.le_trans hq3 (Nat.le_of_lt hl3)⟩
          obtain ⟨g2, hg2, OO2, hl2, hq2⟩ := sm2
          refine hK.out _ _ trivial (fun hHeld => ?_)
          clear hK K
          try simp only [Act.put, List.getElem_toArray, List.getElem_cons_zero, List.getElem_cons_succ, List.setIfInBounds_toArray, List.set_cons_zero, List.set_cons_succ]
          refine wpAnyH_ready (rs := [0, 1]) (by kernel_rfl) (by simp) ?_
          refine AllReadyH.cons (o := _) rfl (fun K hK => ?_) (AllReadyH.cons (o := _) rfl (fun K hK => ?_) AllReadyH.nil)
          · rw [if_pos (by rfl)]
            refine wp_make_bytes _ _ 37 rfl j0 Try.underlying37 hj hy0 hy1 hy2 .i64 .i64 32 rfl rfl (by decide) ?_
            intro wm0 OM0 bm0
            have dm0 : Below w0.heap.size w0 wm0 := belT dm2 bm0
            have sm0 : ∃ g, g = wm2.heap.size ∧ Own wm0 g (.slice (some ⟨g, 0, none⟩) 32 32) zero32 ∧ g < wm0.heap.size ∧ w4.heap.size ≤ g := ⟨wm2.heap.size, rfl, OM0, OM0.lt _ rfl, Nat.le_trans hq2 (Nat.le_of_lt hl2)⟩
            obtain ⟨g0, hg0, OO0, hl0, hq0⟩ := sm0
            refine hK.out _ _ trivial (fun hHeld => ?_)
            clear hK K
            try simp only [Act.put, List.getElem_toArray, List.getElem_cons_zero, List.getElem_cons_succ, List.setIfInBounds_toArray, List.set_cons_zero, List.set_cons_succ]
            refine wpAnyH_ready (rs := [1]) (by kernel_rfl) (by simp) ?_
            refine AllReadyH.cons (o := _) rfl (fun K hK => ?_) AllReadyH.nil
            rw [if_pos (by rfl)]
            refine wp_make_bytes _ _ 37 rfl j0 Try.underlying37 hj hy0 hy1 hy2 .i64 .i64 32 rfl rfl (by decide) ?_
            intro wm1 OM1 bm1
            have dm1 : Below w0.heap.size w0 wm1 := belT dm0 bm1
            have sm1 : ∃ g, g = wm0.heap.size ∧ Own wm1 g (.slice (some ⟨g, 0, none⟩) 32 32) zero32 ∧ g < wm1.heap.size ∧ w4.heap.size ≤ g := ⟨wm0.heap.size, rfl, OM1, OM1.lt _ rfl, Nat.le_trans hq0 (Nat.le_of_lt hl0)⟩
            obtain ⟨g1, hg1, OO1, hl1, hq1⟩ := sm1
            refine hK.out _ _ trivial (fun hHeld => ?_)
            clear hK K
            try simp only [Act.put, List.getElem_toArray, List.getElem_cons_zero, List.getElem_cons_succ, List.setIfInBounds_toArray, List.set_cons_zero, List.set_cons_succ]
            refine wpAnyH_ready (rs := [4]) (by kernel_rfl) (by simp) ?_
            refine AllReadyH.cons (o := _) rfl (fun K hK => ?_) AllReadyH.nil
            go_simp
            have SZ0 : w0.heap.size ≤ g0 := Nat.le_trans B4.size hq0
            have SZ1 : w0.heap.size ≤ g1 := Nat.le_trans B4.size hq1
            have SZ2 : w0.heap.size ≤ g2 := Nat.le_trans B4.size hq2
            have SZ3 : w0.heap.size ≤ g3 := Nat.le_trans B4.size hq3
            have QD := OwnD.four (own_mono (OO0.up (bm1)) SZ0) (own_mono OO1 SZ1) (own_mono (OO2.up (belT bm0 (bm1))) SZ2) (own_mono (OO3.up (belT bm2 (belT bm0 (bm1)))) SZ3) (by omega) (by omega) (by omega) (by omega) (by omega) (by omega) (dm1.size)
            subst hg0 hg1 hg2 hg3
            refine hK.out _ _ trivial (fun hHeld => ?_)
            clear hK K
            try simp only [Act.put, List.getElem_toArray, List.getElem_cons_zero, List.getElem_cons_succ, List.setIfInBounds_toArray, List.set_cons_zero, List.set_cons_succ]
            refine wpAnyH_take (i := 5) (oi := _) (v := ?_) rfl (by kernel_rfl) (by kernel_rfl) (by kernel_rfl) (fun _ _ _ h => h) (Or.inl ⟨by rfl, ?_⟩) (by assumption) ?_
            rotate_left
            · intro w hSw
              (try dsimp only at hSw)
              go_simp
              try with_reducible rfl
            try simp only [Act.put, List.getElem_toArray, List.getElem_cons_zero, List.getElem_cons_succ, List.setIfInBounds_toArray, List.set_cons_zero, List.set_cons_succ]
            refine wpAnyH_done (by kernel_rfl) ?_ _
            go_wp2
            go_meet
            case rel => exact ⟨Lib.hid ⟨[zero32, zero32, zero32, zero32], rfl, (fun p hp => by simp only [List.mem_cons, List.not_mem_nil, or_false, or_self] at hp; rw [hp]; rfl), QD⟩, belA1 dm1⟩
          · rw [if_pos (by rfl)]
            refine wp_make_bytes _ _ 37 rfl j0 Try.underlying37 hj hy0 hy1 hy2 .i64 .i64 32 rfl rfl (by decide) ?_
            intro wm1 OM1 bm1
            have dm1 : Below w0.heap.size w0 wm1 := belT dm2 bm1
            have sm1 : ∃ g, g = wm2.heap.size ∧ Own wm1 g (.slice (some ⟨g, 0, none⟩) 32 32) zero32 ∧ g < wm1.heap.size ∧ w4.heap.size ≤ g := ⟨wm2.heap.size, rfl, OM1, OM1.lt _ rfl, Nat.le_trans hq2 (Nat.le_of_lt hl2)⟩
            obtain ⟨g1, hg1, OO1, hl1, hq1⟩ := sm1
            refine hK.out _ _ trivial (fun hHeld => ?_)
            clear hK K
            try simp only [Act.put, List.getElem_toArray, List.getElem_cons_zero, List.getElem_cons_succ, List.setIfInBounds_toArray, List.set_cons_zero, List.set_cons_succ]
            refine wpAnyH_ready (rs := [0]) (by kernel_rfl) (by simp) ?_
            refine AllReadyH.cons (o := _) rfl (fun K hK => ?_) AllReadyH.nil
            rw [if_pos (by rfl)]
            refine wp_make_bytes _ _ 37 rfl j0 Try.underlying37 hj hy0 hy1 hy2 .i64 .i64 32 rfl rfl (by decide) ?_
            intro wm0 OM0 bm0
            have dm0 : Below w0.heap.size w0 wm0 := belT dm1 bm0
            have sm0 : ∃ g, g = wm1.heap.size ∧ Own wm0 g (.slice (some ⟨g, 0, none⟩) 32 32) zero32 ∧ g < wm0.heap.size ∧ w4.heap.size ≤ g := ⟨wm1.heap.size, rfl, OM0, OM0.lt _ rfl, Nat.le_trans hq1 (Nat.le_of_lt hl1)⟩
            obtain ⟨g0, hg0, OO0, hl0, hq0⟩ := sm0
            refine hK.out _ _ trivial (fun hHeld => ?_)
            clear hK K
            try simp only [Act.put, List.getElem_toArray, List.getElem_cons_zero, List.getElem_cons_succ, List.setIfInBounds_toArray, List.set_cons_zero, List.set_cons_succ]
            refine wpAnyH_ready (rs := [4]) (by kernel_rfl) (by simp) ?_
            refine AllReadyH.cons (o := _) rfl (fun K hK => ?_) AllReadyH.nil
            go_simp
            have SZ0 : w0.heap.size ≤ g0 := Nat.le_trans B4.size hq0
            have SZ1 : w0.heap.size ≤ g1 := Nat.le_trans B4.size hq1
            have SZ2 : w0.heap.size ≤ g2 := Nat.le_trans B4.size hq2
            have SZ3 : w0.heap.size ≤ g3 := Nat.le_trans B4.size hq3
            have QD := OwnD.four (own_mono OO0 SZ0) (own_mono (OO1.up (bm0)) SZ1) (own_mono (OO2.up (belT bm1 (bm0))) SZ2) (own_mono (OO3.up (belT bm2 (belT bm1 (bm0)))) SZ3) (by omega) (by omega) (by omega) (by omega) (by omega) (by omega) (dm0.size)
            subst hg0 hg1 hg2 hg3
            refine hK.out _ _ trivial (fun hHeld => ?_)
            clear hK K
            try simp only [Act.put, List.getElem_toArray, List.getElem_cons_zero, List.getElem_cons_succ, List.setIfInBounds_toArray, List.set_cons_zero, List.set_cons_succ]
            refine wpAnyH_take (i := 5) (oi := _) (v := ?_) rfl (by kernel_rfl) (by kernel_rfl) (by kernel_rfl) (fun _ _ _ h => h) (Or.inl ⟨by rfl, ?_⟩) (by assumption) ?_
            rotate_left
            · intro w hSw
              (try dsimp only at hSw)
              go_simp
              try with_reducible rfl
            try simp only [Act.put, List.getElem_toArray, List.getElem_cons_zero, List.getElem_cons_succ, List.setIfInBounds_toArray, List.set_cons_zero, List.set_cons_succ]
            refine wpAnyH_done (by kernel_rfl) ?_ _
            go_wp2
            go_meet
            case rel => exact ⟨Lib.hid ⟨[zero32, zero32, zero32, zero32], rfl, (fun p hp => by simp only [List.mem_cons, List.not_mem_nil, or_false, or_self] at hp; rw [hp]; rfl), QD⟩, belA1 dm0⟩
  obtain ⟨HG, BG⟩ := hcut
  obtain ⟨ls, hl4, hl32, OG⟩ := HG.out
  obtain ⟨ax, cx, ex, _, _⟩ := OG.shape
  rw [hl4] at ex
  subst ex
  go_wp2_with fail
  have OG := Lib.hid OG
  obtain ⟨rb, c', e', hrb1, hrb2, _, _⟩ := RowB.shape OG.out.toB (by rw [hl4]; decide)
  rw [hl4] at e'
  cases e'
  have hrb0 : w0.heap.size ≤ rb := hrb1
  go_cut [] from 46 (fun X => Hid (Good4 X w0.heap.size (.slice (some ⟨rb, 0, none⟩) 4 cx)) ∧ Below w0.heap.size w0 X)
  case first =>
    refine wp_region_held_drew (S := fun _ => True) (by kernel_rfl) trivial (fun hHeld => ?_)
    refine wpAnyH_take (i := 0) (oi := _) (v := ?_) rfl (by kernel_rfl) (by kernel_rfl) (by kernel_rfl) (fun _ _ _ h => h) (Or.inl ⟨by rfl, ?_⟩) (by assumption) ?_
    rotate_left
    · intro w hSw
      (try dsimp only at hSw)
      go_simp
      try with_reducible rfl
    try simp only [Act.put, List.getElem_toArray, List.getElem_cons_zero, List.getElem_cons_succ, List.setIfInBounds_toArray, List.set_cons_zero, List.set_cons_succ]
    refine wpAnyH_take (i := 1) (oi := _) (v := ?_) rfl (by kernel_rfl) (by kernel_rfl) (by kernel_rfl) (fun _ _ _ h => h) (Or.inl ⟨by rfl, ?_⟩) (by assumption) ?_
    rotate_left
    · intro w hSw
      (try dsimp only at hSw)
      go_simp
      try with_reducible rfl
    try simp only [Act.put, List.getElem_toArray, List.getElem_cons_zero, List.getElem_cons_succ, List.setIfInBounds_toArray, List.set_cons_zero, List.set_cons_succ]
    refine wpAnyH_take (i := 5) (oi := _) (v := ?_) rfl (by kernel_rfl) (by kernel_rfl) (by kernel_rfl) (fun _ _ _ h => h) (Or.inl ⟨by rfl, ?_⟩) (by assumption) ?_
    rotate_left
    · intro w hSw
      (try dsimp only at hSw)
      go_simp
      try with_reducible rfl
    try simp only [Act.put, List.getElem_toArray, List.getElem_cons_zero, List.getElem_cons_succ, List.setIfInBounds_toArray, List.set_cons_zero, List.set_cons_succ]
    refine wpAnyH_take (i := 9) (oi := _) (v := ?_) rfl (by kernel_rfl) (by kernel_rfl) (by kernel_rfl) (fun _ _ _ h => h) (Or.inl ⟨by rfl, ?_⟩) (by assumption) ?_
    rotate_left
    · intro w hSw
      (try dsimp only at hSw)
      go_simp
      try with_reducible rfl
    try simp only [Act.put, List.getElem_toArray, List.getElem_cons_zero, List.getElem_cons_succ, List.setIfInBounds_toArray, List.set_cons_zero, List.set_cons_succ]
    refine wpAnyH_ready (rs := [2]) (by kernel_rfl) (by simp) ?_
    refine AllReadyH.cons (o := _) rfl (fun K hK => ?_) AllReadyH.nil
    go_simp
    refine Calls.mono (within_ex part 4 _ (by decide) (by decide) ⟨h7a, h7b⟩) ?_
    rintro e wa ⟨k, rfl, hk4, rfl⟩
    obtain ⟨rb', ro', c', p, he, hcr, hp, hoc, hset, hne1, hlt1, _⟩ := OG.out.get (k := k) (by rw [hl4]; omega)
    cases he
    rw [Nat.zero_add] at hcr
    have hset := Lib.hid hset
    have hp32 : p.length = 32 := hl32 p (List.mem_of_getElem? hp.out)
    obtain ⟨gr, cr, rfl, hgr1, hgr2, hgr3, hgr4⟩ := own_shape (n := 32) (by have := hoc.2; rwa [hp32] at this) (by decide)
    have HOC := Lib.hid hoc
    have HP32 := Lib.hid hp32
    have hk0 : (0 : Int) ≤ (k : Int) := by omega
    clear hoc hp32
    try go_simp
    refine hK.out _ _ trivial (fun hHeld => ?_)
    clear hK K
    try simp only [Act.put, List.getElem_toArray, List.getElem_cons_zero, List.getElem_cons_succ, List.setIfInBounds_toArray, List.set_cons_zero, List.set_cons_succ]
    refine wpAnyH_take (i := 3) (oi := _) (v := ?_) rfl (by kernel_rfl) (by kernel_rfl) (by kernel_rfl) (fun _ _ _ h => h) (Or.inl ⟨by rfl, ?_⟩) (by assumption) ?_
    rotate_left
    · intro w hSw
      (try dsimp only at hSw)
      go_simp
      try with_reducible rfl
    try simp only [Act.put, List.getElem_toArray, List.getElem_cons_zero, List.getElem_cons_succ, List.setIfInBounds_toArray, List.set_cons_zero, List.set_cons_succ]
    refine wpAnyH_ready (rs := [4, 6]) (by kernel_rfl) (by simp) ?_
    refine AllReadyH.cons (o := _) rfl (fun K hK => ?_) (AllReadyH.cons (o := _) rfl (fun K hK => ?_) AllReadyH.nil)
    · go_simp
      refine hK.out _ _ trivial (fun hHeld => ?_)
      clear hK K
      try simp only [Act.put, List.getElem_toArray, List.getElem_cons_zero, List.getElem_cons_succ, List.setIfInBounds_toArray, List.set_cons_zero, List.set_cons_succ]
      refine wpAnyH_ready (rs := [6]) (by kernel_rfl) (by simp) ?_
      refine AllReadyH.cons (o := _) rfl (fun K hK => ?_) AllReadyH.nil
      go_simp
      refine Calls.mono (within_ex at' 32 _ (by decide) (by decide) HAT.out) ?_
      rintro e wb ⟨i, rfl, hi32, rfl⟩
      obtain ⟨x0, hx0⟩ : ∃ x0, p[i]? = some x0 := ⟨_, List.getElem?_eq_getElem (by have := HP32.out; omega)⟩
      obtain ⟨hx8, hca, hfa⟩ := HOC.out.cells hx0
      have hi00 : (0 : Int) ≤ (i : Int) := by omega
      have hbx : bits .xor .u8 (x0 : Int) (cc : Int) = ((x0 ^^^ cc : Nat) : Int) := bx8 hx8 hcc
      have hy8 : x0 ^^^ cc < 256 := xor8 hx8 hcc
      try go_simp
      refine hK.out _ _ trivial (fun hHeld => ?_)
      clear hK K
      try simp only [Act.put, List.getElem_toArray, List.getElem_cons_zero, List.getElem_cons_succ, List.setIfInBounds_toArray, List.set_cons_zero, List.set_cons_succ]
      refine wpAnyH_take (i := 7) (oi := _) (v := ?_) rfl (by kernel_rfl) (by kernel_rfl) (by kernel_rfl) (fun _ _ _ h => h) (Or.inl ⟨by rfl, ?_⟩) (by assumption) ?_
      rotate_left
      · intro w hSw
        (try dsimp only at hSw)
        go_simp
        try with_reducible rfl
      try simp only [Act.put, List.getElem_toArray, List.getElem_cons_zero, List.getElem_cons_succ, List.setIfInBounds_toArray, List.set_cons_zero, List.set_cons_succ]
      refine wpAnyH_ready (rs := [8]) (by kernel_rfl) (by simp) ?_
      refine AllReadyH.cons (o := _) rfl (fun K hK => ?_) AllReadyH.nil
      go_simp
      refine hK.out _ _ trivial (fun hHeld => ?_)
      clear hK K
      try simp only [Act.put, List.getElem_toArray, List.getElem_cons_zero, List.getElem_cons_succ, List.setIfInBounds_toArray, List.set_cons_zero, List.set_cons_succ]
      refine wpAnyH_take (i := 10) (oi := _) (v := ?_) rfl (by kernel_rfl) (by kernel_rfl) (by kernel_rfl) (fun _ _ _ h => h) (Or.inl ⟨by rfl, ?_⟩) (by assumption) ?_
      rotate_left
      · intro w hSw
        (try dsimp only at hSw)
        go_simp
        try with_reducible rfl
      try simp only [Act.put, List.getElem_toArray, List.getElem_cons_zero, List.getElem_cons_succ, List.setIfInBounds_toArray, List.set_cons_zero, List.set_cons_succ]
      refine wpAnyH_take (i := 11) (oi := _) (v := ?_) rfl (by kernel_rfl) (by kernel_rfl) (by kernel_rfl) (fun _ _ _ h => h) (Or.inl ⟨by rfl, ?_⟩) (by assumption) ?_
      rotate_left
      · intro w hSw
        (try dsimp only at hSw)
        go_simp
        try with_reducible rfl
      try simp only [Act.put, List.getElem_toArray, List.getElem_cons_zero, List.getElem_cons_succ, List.setIfInBounds_toArray, List.set_cons_zero, List.set_cons_succ]
      refine wpAnyH_ready (rs := [12]) (by kernel_rfl) (by simp) ?_
      refine AllReadyH.cons (o := _) rfl (fun K hK => ?_) AllReadyH.nil
      go_simp
      refine hK.out _ _ trivial (fun hHeld => ?_)
      clear hK K
      try simp only [Act.put, List.getElem_toArray, List.getElem_cons_zero, List.getElem_cons_succ, List.setIfInBounds_toArray, List.set_cons_zero, List.set_cons_succ]
      refine wpAnyH_done (by kernel_rfl) ?_ _
      go_wp2
      go_meet
      case rel =>
        have h1 := HOC.out.store i (x0 ^^^ cc) hy8
        refine ⟨Lib.hid ⟨ls.set k (p.set i (x0 ^^^ cc)), by rw [List.length_set]; exact hl4, fun q hq => ?_, (hset.out _ _ h1.1 h1.2).up (by first | exact belR _ | exact belDr (belR _))⟩, by first | exact BG.setCell (by show w0.heap.size ≤ gr; exact hgr1) _ | exact belDr (BG.setCell (by show w0.heap.size ≤ gr; exact hgr1) _)⟩
        rcases List.mem_or_eq_of_mem_set hq with h | h
        · exact hl32 q h
        · rw [h, List.length_set]; exact HP32.out
    · go_simp
      refine Calls.mono (within_ex at' 32 _ (by decide) (by decide) HAT.out) ?_
      rintro e wb ⟨i, rfl, hi32, rfl⟩
      obtain ⟨x0, hx0⟩ : ∃ x0, p[i]? = some x0 := ⟨_, List.getElem?_eq_getElem (by have := HP32.out; omega)⟩
      obtain ⟨hx8, hca, hfa⟩ := HOC.out.cells hx0
      have hi00 : (0 : Int) ≤ (i : Int) := by omega
      have hbx : bits .xor .u8 (x0 : Int) (cc : Int) = ((x0 ^^^ cc : Nat) : Int) := bx8 hx8 hcc
      have hy8 : x0 ^^^ cc < 256 := xor8 hx8 hcc
      try go_simp
      refine hK.out _ _ trivial (fun hHeld => ?_)
      clear hK K
      try simp only [Act.put, List.getElem_toArray, List.getElem_cons_zero, List.getElem_cons_succ, List.setIfInBounds_toArray, List.set_cons_zero, List.set_cons_succ]
      refine wpAnyH_ready (rs := [4]) (by kernel_rfl) (by simp) ?_
      refine AllReadyH.cons (o := _) rfl (fun K hK => ?_) AllReadyH.nil
      go_simp
      refine hK.out _ _ trivial (fun hHeld => ?_)
      clear hK K
      try simp only [Act.put, List.getElem_toArray, List.getElem_cons_zero, List.getElem_cons_succ, List.setIfInBounds_toArray, List.set_cons_zero, List.set_cons_succ]
      refine wpAnyH_take (i := 7) (oi := _) (v := ?_) rfl (by kernel_rfl) (by kernel_rfl) (by kernel_rfl) (fun _ _ _ h => h) (Or.inl ⟨by rfl, ?_⟩) (by assumption) ?_
      rotate_left
      · intro w hSw
        (try dsimp only at hSw)
        go_simp
        try with_reducible rfl
      try simp only [Act.put, List.getElem_toArray, List.getElem_cons_zero, List.getElem_cons_succ, List.setIfInBounds_toArray, List.set_cons_zero, List.set_cons_succ]
      refine wpAnyH_ready (rs := [8]) (by kernel_rfl) (by simp) ?_
      refine AllReadyH.cons (o := _) rfl (fun K hK => ?_) AllReadyH.nil
      go_simp
      refine hK.out _ _ trivial (fun hHeld => ?_)
      clear hK K
      try simp only [Act.put, List.getElem_toArray, List.getElem_cons_zero, List.getElem_cons_succ, List.setIfInBounds_toArray, List.set_cons_zero, List.set_cons_succ]
      refine wpAnyH_take (i := 10) (oi := _) (v := ?_) rfl (by kernel_rfl) (by kernel_rfl) (by kernel_rfl) (fun _ _ _ h => h) (Or.inl ⟨by rfl, ?_⟩) (by assumption) ?_
      rotate_left
      · intro w hSw
        (try dsimp only at hSw)
        go_simp
        try with_reducible rfl
      try simp only [Act.put, List.getElem_toArray, List.getElem_cons_zero, List.getElem_cons_succ, List.setIfInBounds_toArray, List.set_cons_zero, List.set_cons_succ]
      refine wpAnyH_take (i := 11) (oi := _) (v := ?_) rfl (by kernel_rfl) (by kernel_rfl) (by kernel_rfl) (fun _ _ _ h => h) (Or.inl ⟨by rfl, ?_⟩) (by assumption) ?_
      rotate_left
      · intro w hSw
        (try dsimp only at hSw)
        go_simp
        try with_reducible rfl
      try simp only [Act.put, List.getElem_toArray, List.getElem_cons_zero, List.getElem_cons_succ, List.setIfInBounds_toArray, List.set_cons_zero, List.set_cons_succ]
      refine wpAnyH_ready (rs := [12]) (by kernel_rfl) (by simp) ?_
      refine AllReadyH.cons (o := _) rfl (fun K hK => ?_) AllReadyH.nil
      go_simp
      refine hK.out _ _ trivial (fun hHeld => ?_)
      clear hK K
      try simp only [Act.put, List.getElem_toArray, List.getElem_cons_zero, List.getElem_cons_succ, List.setIfInBounds_toArray, List.set_cons_zero, List.set_cons_succ]
      refine wpAnyH_done (by kernel_rfl) ?_ _
      go_wp2
      go_meet
      case rel =>
        have h1 := HOC.out.store i (x0 ^^^ cc) hy8
        refine ⟨Lib.hid ⟨ls.set k (p.set i (x0 ^^^ cc)), by rw [List.length_set]; exact hl4, fun q hq => ?_, (hset.out _ _ h1.1 h1.2).up (by first | exact belR _ | exact belDr (belR _))⟩, by first | exact BG.setCell (by show w0.heap.size ≤ gr; exact hgr1) _ | exact belDr (BG.setCell (by show w0.heap.size ≤ gr; exact hgr1) _)⟩
        rcases List.mem_or_eq_of_mem_set hq with h | h
        · exact hl32 q h
        · rw [h, List.length_set]; exact HP32.out
  obtain ⟨HG5, BG5⟩ := hcut
  clear HG BG OG hl4 hl32
  go_upto_if 58 with (fail)
  go_cut [] from 59 (fun X => Hid (Row4 X w0.heap.size (.slice (some ⟨rb, 0, none⟩) 4 cx)) ∧ Below w0.heap.size w0 X)
  case first =>
    cases sealed' with
    | false =>
      go_wp2_with fail
      have O8 : Hid (Row4 wc w0.heap.size (.slice (some ⟨rb, 0, none⟩) 4 cx)) := by
        obtain ⟨ls, q1, q2, q3⟩ := HG5.out
        exact ⟨ls, q1, q2, q3.toB⟩
      go_meet
      case rel => exact ⟨O8, BG5⟩
    | true =>
      obtain ⟨ls, q4, q32, OG⟩ := HG5.out
      have hcx4 : 4 ≤ cx := by obtain ⟨_, _, e, h, _⟩ := OG.shape; rw [q4] at e h; cases e; exact h
      have hcx1 : ¬ cx = 1 := by omega
      have hcx1' : (1 : Int) ≤ (cx : Int) := by omega
      obtain ⟨rb', ro', c0, p0, he, hcr, hp, hoc, _⟩ := OG.get (k := 0) (by rw [q4]; decide)
      cases he
      have hp32 := q32 p0 (List.mem_of_getElem? hp.out)
      obtain ⟨a0, k0, rfl, _, _⟩ := hoc.byt.shapeN hp32
      have hrbl : rb < wc.heap.size := World.block_lt_of_cell? wc _ hcr
      have HCR : Hid (∀ X, Below wc.heap.size wc X → RowB X w0.heap.size (.slice (some ⟨rb, 0, none⟩) 4 cx) ls) := fun X hX => OG.toB.up hX
      have HOB := Lib.hid hoc.byt
      have HPD : Hid (Parts wc (.slice (some ⟨rb, 0 + 1, none⟩) 3 (cx - 1)) (ls.drop 1)) := OG.parts.dropI (k := 1) (by decide)
      have hcr : wc.cell? ⟨rb, 0, none⟩ = some (.slice a0 32 k0) := hcr
      clear hoc
      go_wp2_with fail
      refine wp_region_held_drew (S := fun _ => True) (by kernel_rfl) trivial (fun hHeld => ?_)
      refine wpAnyH_take (i := 0) (oi := _) (v := ?_) rfl (by kernel_rfl) (by kernel_rfl) (by kernel_rfl) (fun _ _ _ h => h) (Or.inl ⟨by rfl, ?_⟩) (by assumption) ?_
      rotate_left
      · intro w hSw
        (try dsimp only at hSw)
        go_simp
        try with_reducible rfl
      try simp only [Act.put, List.getElem_toArray, List.getElem_cons_zero, List.getElem_cons_succ, List.setIfInBounds_toArray, List.set_cons_zero, List.set_cons_succ]
      refine wpAnyH_take (i := 1) (oi := _) (v := ?_) rfl (by kernel_rfl) (by kernel_rfl) (by kernel_rfl) (fun _ _ _ h => h) (Or.inl ⟨by rfl, ?_⟩) (by assumption) ?_
      rotate_left
      · intro w hSw
        (try dsimp only at hSw)
        go_simp
        try with_reducible rfl
      try simp only [Act.put, List.getElem_toArray, List.getElem_cons_zero, List.getElem_cons_succ, List.setIfInBounds_toArray, List.set_cons_zero, List.set_cons_succ]
      refine wpAnyH_take (i := 4) (oi := _) (v := ?_) rfl (by kernel_rfl) (by kernel_rfl) (by kernel_rfl) (fun _ _ _ h => h) (Or.inl ⟨by rfl, ?_⟩) (by assumption) ?_
      rotate_left
      · intro w hSw
        (try dsimp only at hSw)
        go_simp
        try with_reducible rfl
      try simp only [Act.put, List.getElem_toArray, List.getElem_cons_zero, List.getElem_cons_succ, List.setIfInBounds_toArray, List.set_cons_zero, List.set_cons_succ]
      refine wpAnyH_take (i := 2) (oi := _) (v := ?_) rfl (by kernel_rfl) (by kernel_rfl) (by kernel_rfl) (fun _ _ _ h => h) (Or.inl ⟨by rfl, ?_⟩) (by assumption) ?_
      rotate_left
      · intro w hSw
        (try dsimp only at hSw)
        go_simp
        try with_reducible rfl
      try simp only [Act.put, List.getElem_toArray, List.getElem_cons_zero, List.getElem_cons_succ, List.setIfInBounds_toArray, List.set_cons_zero, List.set_cons_succ]
      refine wpAnyH_take (i := 5) (oi := _) (v := ?_) rfl (by kernel_rfl) (by kernel_rfl) (by kernel_rfl) (fun _ _ _ h => h) (Or.inl ⟨by rfl, ?_⟩) (by assumption) ?_
      rotate_left
      · intro w hSw
        (try dsimp only at hSw)
        go_simp
        try with_reducible rfl
      try simp only [Act.put, List.getElem_toArray, List.getElem_cons_zero, List.getElem_cons_succ, List.setIfInBounds_toArray, List.set_cons_zero, List.set_cons_succ]
      refine wpAnyH_ready (rs := [3]) (by kernel_rfl) (by simp) ?_
      refine AllReadyH.cons (o := _) rfl (fun K hK => ?_) AllReadyH.nil
      go_simp
      refine hK.out _ _ trivial (fun hHeld => ?_)
      clear hK K
      try simp only [Act.put, List.getElem_toArray, List.getElem_cons_zero, List.getElem_cons_succ, List.setIfInBounds_toArray, List.set_cons_zero, List.set_cons_succ]
      refine wpAnyH_ready (rs := [6]) (by kernel_rfl) (by simp) ?_
      refine AllReadyH.cons (o := _) rfl (fun K hK => ?_) AllReadyH.nil
      go_simp
      refine Calls.mono (sealed_any _ _ p0 (ls.drop 1) _ (HOB.out.up (by iterate 8 try (first | assumption | exact belR _ | apply belDr | apply belAlloc))) hp32 (HPD.out.up (by iterate 8 try (first | assumption | exact belR _ | apply belDr | apply belAlloc))) (by rw [List.length_drop, q4]; decide)) ?_
      rintro e z ⟨vz, rfl, OZ, bz⟩
      have BZ : Below wc.heap.size wc z := belT (by iterate 8 try (first | assumption | exact belR _ | apply belDr | apply belAlloc)) bz
      have hlz : (sealed p0 (ls.drop 1)).length = 32 := sealed_len _ hp32
      obtain ⟨gz, kz, rfl, hgz, _⟩ := own_shape (n := 32) (by have := OZ.2; rwa [hlz] at this) (by decide)
      have hgz2 : wc.heap.size ≤ gz := by refine Nat.le_trans ?_ hgz; exact ((by iterate 8 try (first | assumption | exact belR _ | apply belDr | apply belAlloc)) : Below wc.heap.size wc _).size
      obtain ⟨cz, pz, hcz, hfz, _⟩ := (HCR.out z BZ).get (k := 0) (by rw [q4]; decide)
      try go_simp
      refine hK.out _ _ trivial (fun hHeld => ?_)
      clear hK K
      try simp only [Act.put, List.getElem_toArray, List.getElem_cons_zero, List.getElem_cons_succ, List.setIfInBounds_toArray, List.set_cons_zero, List.set_cons_succ]
      refine wpAnyH_take (i := 7) (oi := _) (v := ?_) rfl (by kernel_rfl) (by kernel_rfl) (by kernel_rfl) (fun _ _ _ h => h) (Or.inl ⟨by rfl, ?_⟩) (by assumption) ?_
      rotate_left
      · intro w hSw
        (try dsimp only at hSw)
        go_simp
        try with_reducible rfl
      try simp only [Act.put, List.getElem_toArray, List.getElem_cons_zero, List.getElem_cons_succ, List.setIfInBounds_toArray, List.set_cons_zero, List.set_cons_succ]
      refine wpAnyH_ready (rs := [8]) (by kernel_rfl) (by simp) ?_
      refine AllReadyH.cons (o := _) rfl (fun K hK => ?_) AllReadyH.nil
      go_simp
      refine hK.out _ _ trivial (fun hHeld => ?_)
      clear hK K
      try simp only [Act.put, List.getElem_toArray, List.getElem_cons_zero, List.getElem_cons_succ, List.setIfInBounds_toArray, List.set_cons_zero, List.set_cons_succ]
      refine wpAnyH_done (by kernel_rfl) ?_ _
      go_wp2
      go_meet
      case rel =>
        refine ⟨Lib.hid ⟨ls.set 0 (sealed p0 (ls.drop 1)), by rw [List.length_set]; exact q4, fun q hq => ?_, (RowB.put (HCR.out z BZ) (k := 0) (by rw [q4]; decide) OZ.byt (.inr (fun b hb e => by cases hb; have e : rb = gz := e; omega))).up (by first | exact belR _ | exact belDr (belR _))⟩, by first | exact (belT BG5 BZ).setCell (by show w0.heap.size ≤ rb; exact hrb0) _ | exact belDr ((belT BG5 BZ).setCell (by show w0.heap.size ≤ rb; exact hrb0) _)⟩
        rcases List.mem_or_eq_of_mem_set hq with h | h
        · exact q32 q h
        · rw [h]; exact hlz
  obtain ⟨HR7, BG7⟩ := hcut
  clear HG5 BG5
  go_wp2_with fail
  refine Calls.mono (within_ex (part.tdiv 4) 12 _ (by decide) (by decide) (HPT.out 4 (by decide))) ?_
  rintro e wa ⟨k9, rfl, hk9, rfl⟩
  obtain ⟨bA, hbA⟩ : ∃ b, ((k9 : Int) == 0) = b := ⟨_, rfl⟩
  obtain ⟨bB, hbB⟩ : ∃ b, ((k9 : Int) == 1) = b := ⟨_, rfl⟩
  obtain ⟨bC, hbC⟩ : ∃ b, ((k9 : Int) == 2) = b := ⟨_, rfl⟩
  obtain ⟨ls, q4, q32, OB⟩ := HR7.out
  have OB := Lib.hid OB
  have hcx4 : 4 ≤ cx := by obtain ⟨_, _, e, _, _, h, _⟩ := OB.out.shape (by omega); rw [q4] at e h; cases e; exact h
  go_upto_block 0 with (fail)
  go_cut [16] from 70 (fun yv X => Hid (RowP X yv) ∧ Below w0.heap.size w0 X)
  case first =>
    cases bA with
    | true =>
      go_wp2_with fail
      refine Calls.mono (within_ex at' 4 _ (by decide) (by decide) HAT.out) ?_
      rintro e wb ⟨k, rfl, hk4, rfl⟩
      have hkc : (k : Int) ≤ (cx : Int) := by omega
      have hk0 : (0 : Int) ≤ (k : Int) := by omega
      have O8 : Hid (RowP wc (.slice (some ⟨rb, 0, none⟩) k cx)) ∧ Below w0.heap.size w0 wc := ⟨Lib.hid ⟨_, OB.out.parts.takeI (k := k) (by omega)⟩, BG7⟩
      go_wp2_with fail
      go_meet
      case rel => exact O8
    | false =>
      cases bB with
      | true =>
        go_wp2_with fail
        refine Calls.mono (within_ex part 4 _ (by decide) (by decide) ⟨h7a, h7b⟩) ?_
        rintro e wb ⟨k1, rfl, hk1, rfl⟩
        go_wp2_with fail
        refine Calls.mono (within_ex part 4 _ (by decide) (by decide) ⟨h7a, h7b⟩) ?_
        rintro e wb ⟨k2, rfl, hk2, rfl⟩
        obtain ⟨cA, pA, hcA, hfA, hpA, hyA, hxA⟩ := OB.out.get (k := k1) (by rw [q4]; omega)
        obtain ⟨cB, pB, hcB, hfB, hpB, hyB, hxB⟩ := OB.out.get (k := k2) (by rw [q4]; omega)
        obtain ⟨aB, kB, rfl, hB1, hB2⟩ := hyB.shapeN (q32 pB (List.mem_of_getElem? hpB.out))
        obtain ⟨m31, hm31, hm32⟩ := and31 at' HAT.out
        have hmk : (m31 : Int) ≤ (kB : Int) := by omega
        have hm0 : (0 : Int) ≤ (m31 : Int) := by omega
        have e10 : (0 : Int) ≤ (k1 : Int) := by omega
        have e20 : (0 : Int) ≤ (k2 : Int) := by omega
        have O8 : Hid (RowP (wc.setCell ⟨rb, k1, none⟩ (.slice aB m31 kB)) (.slice (some ⟨rb, 0, none⟩) 4 cx)) := Lib.hid ⟨_, (OB.out.put (k := k1) (by rw [q4]; omega) (hyB.takeV (k := m31) (by omega)) (by
          rcases hxB with h | h
          · exact .inl (by rw [h]; simp)
          · exact .inr fun b hb e => h b (by rw [← hb]; exact own_len aB 32 m31 kB kB) e)).parts⟩
        go_wp2_with fail
        go_meet
        case rel => exact ⟨O8, BG7.setCell (by show w0.heap.size ≤ rb; exact hrb0) _⟩
      | false =>
        cases bC with
        | true =>
          obtain ⟨cA, pA, hcA, hfA, hpA, hyA, hxA⟩ := OB.out.get (k := 0) (by rw [q4]; decide)
          obtain ⟨aA, kA, rfl, hA1, hA2⟩ := hyA.shapeN (q32 pA (List.mem_of_getElem? hpA.out))
          have HYA := Lib.hid hyA
          have HXA := Lib.hid hxA
          clear hyA hxA
          go_wp2_with (at_builtin; go_loud (refine wpList_append_rowB rfl (.tmp 92) (.tmp 96) 27 rfl i0 Try.underlying27 hi hz0 hz1 hz2 w0.heap.size _ ls rfl (OB.out.up (belA1 (belR _))) _ (.slice aA 32 kA) pA rfl (At.one _ _ _ (by first | rfl | simp)) (HYA.out.up (belA1 (belR _))) (HXA.out.imp id (fun h b hb e => h b hb (by cases e; rfl))) (by omega) (by have := BG7.size; simp; omega) ?_); intro v9 w9 O9 g9)
          have O8 : Hid (RowP w9 v9) ∧ Below w0.heap.size w0 w9 := ⟨Lib.hid ⟨_, O9⟩, belG (v := .slice (some ⟨rb, 0, none⟩) 4 cx) (belA1 BG7) g9 (fun g hg => by cases hg; exact hrb0)⟩
          go_meet
          case rel => exact O8
        | false =>
          go_wp2_with fail
          have O8 : Hid (RowP wc (.slice (some ⟨rb, 0, none⟩) 4 cx)) ∧ Below w0.heap.size w0 wc := ⟨Lib.hid ⟨_, OB.out.parts⟩, BG7⟩
          go_meet
          case rel => exact O8
  obtain ⟨HY, BY⟩ := hcut
  clear HR7 BG7 OB q4 q32
  obtain ⟨LS, HPY⟩ := HY.out
  have HPY := Lib.hid HPY
  go_wp2_with fail
  refine Calls.mono (decode_any _ LS _ HPY.out) ?_
  rintro e w5 ⟨sD, vD, lD, er, rfl, HID, hsD, bD, hd⟩
  obtain ⟨aD, cD, eD, _⟩ := HID.shape
  have hlen : lD.length ≤ 1000 := by
    rcases hd with ⟨_, _, _, rfl⟩ | ⟨_, _, _, rfl⟩
    · unfold rlist; rw [ritems_len]; have : rcount (LS.getD 0 []) ≤ 3 := Nat.min_le_right _ _; omega
    · simp
  obtain ⟨nL, hnL⟩ : ∃ nL, nL = lD.length := ⟨_, rfl⟩
  rw [← hnL] at eD
  have HNL := Lib.hid hnL
  have HLEN := Lib.hid hlen
  clear hnL hlen
  subst eD
  go_wp2_with fail
  refine Calls.mono (refdec_any _ LS _ (HPY.out.up (belT bD (belA1 (belR _))))) ?_
  rintro e w6 ⟨sR, vR, lR, okR, rfl, HIR, _, bR, hd2⟩
  have hmix : (er = 0 ∧ okR = true ∨ er = 2 ∧ okR = false) ∧ sR = sD ∧ lR = lD := by
    rcases hd with ⟨r1, e1, e2, e3⟩ | ⟨r1, e1, e2, e3⟩ <;> rcases hd2 with ⟨r2, f1, f2, f3⟩ | ⟨r2, f1, f2, f3⟩
    · exact ⟨.inl ⟨e1, f1⟩, by rw [f2, e2], by rw [f3, e3]⟩
    · rw [r1] at r2; cases r2
    · rw [r1] at r2; cases r2
    · exact ⟨.inr ⟨e1, f1⟩, by rw [f2, e2], by rw [f3, e3]⟩
  obtain ⟨hm, rfl, rfl⟩ := hmix
  obtain ⟨aR, cR, eR, _⟩ := HIR.shape
  rw [← HNL.out] at eR
  subst eR
  obtain ⟨x0, x1⟩ := box2 bR
  have HID := Lib.hid (HID.up (belT (belA1 (belR _)) bR))
  have HIR := Lib.hid HIR
  have B6 := belT BY (belT bD (belT (belA1 (belR _)) bR))
  have hss : (sR != sR) = false := by simp
  have hnn : ((nL : Int) != (nL : Int)) = false := by simp
  clear hd hd2
  rcases hm with ⟨rfl, rfl⟩ | ⟨rfl, rfl⟩
  · go_wp2_with fail
    refine Calls.mono (refof_any _ lR _ HID.out HLEN.out) ?_
    rintro e w7 ⟨v7, rfl, I7, b7⟩
    obtain ⟨a7, c7, e7, _⟩ := I7.shape
    rw [← HNL.out] at e7
    subst e7
    have HI7 := Lib.hid I7
    have HIR7 := Lib.hid (HIR.out.up b7)
    clear x0 x1 I7
    go_wp2_with fail
    go_loopw [139] (fun i X => ∃ k : Nat, k ≤ nL ∧ i = .int .i64 k ∧ Below w7.heap.size w7 X) (fun i _ => nL - (intOf i).toNat)
    case atStart => exact ⟨0, by omega, rfl, belR _⟩
    case round =>
      obtain ⟨k, hk, rfl, BX⟩ := hrel
      by_cases hlt : k < nL
      · obtain ⟨b', off', x, ux, rfl, hbl, hx, hit⟩ := Items.get HI7.out hlt
        obtain ⟨b2, off2, y, uy, rfl, hbl2, hy, hit2⟩ := Items.get HIR7.out hlt
        have hxy : y = x := by have := hx.out; rw [hy.out] at this; exact Option.some.inj this
        subst hxy
        obtain ⟨e0, e1, e2, ex, i1, i2⟩ := hit.up BX hbl
        obtain ⟨f0, f1, f2, ey, _⟩ := hit2.up BX hbl2
        obtain ⟨au, cu, rfl, _, _⟩ := ex.shape
        obtain ⟨aw, cw, rfl, _, _⟩ := ey.shape
        obtain ⟨xd, xa, xb⟩ := y
        dsimp only at *
        obtain ⟨nb, hnb⟩ : ∃ nb, nb = xb.length := ⟨_, rfl⟩
        rw [← hnb] at e2 f2 ex ey
        have HE1 := Lib.hid ex
        have HE2 := Lib.hid ey
        have HCC : Hid (∀ X, Below (wr.alloc (.cells #[.int .i64 xd, .int .i64 xa, .slice au nb cu] 75)).heap.size (wr.alloc (.cells #[.int .i64 xd, .int .i64 xa, .slice au nb cu] 75)) X → (X.cell? ⟨wr.heap.size, 0, none⟩ = some (.int .i64 xd) ∧ X.cell? ⟨wr.heap.size, 1, none⟩ = some (.int .i64 xa) ∧ X.cell? ⟨wr.heap.size, 2, none⟩ = some (.slice au nb cu)) ∧ X.cell? ⟨b2, off2 + k * 3, none⟩ = some (.int .i64 xd) ∧ X.cell? ⟨b2, off2 + k * 3 + 1, none⟩ = some (.int .i64 xa) ∧ X.cell? ⟨b2, off2 + k * 3 + 2, none⟩ = some (.slice aw nb cw)) := fun X hX => ⟨⟨box_up hX 0 rfl, box_up hX 1 rfl, box_up hX 2 rfl⟩, cell_fr f0 (Fr.of_below (S := fun _ => False) (belT (belA1 (belR _)) hX)) id, cell_fr f1 (Fr.of_below (S := fun _ => False) (belT (belA1 (belR _)) hX)) id, cell_fr f2 (Fr.of_below (S := fun _ => False) (belT (belA1 (belR _)) hX)) id⟩
        have hdd : (xd != xd) = false := by simp
        have haa : (xa != xa) = false := by simp
        have HLT := Lib.hid hlt
        have hki : (k : Int) < (nL : Int) := by omega
        have hki0 : (0 : Int) ≤ (k : Int) := by omega
        clear ex ey hit hit2 hnb f0 f1 f2
        go_wp2_with fail
        clear e0 e1 e2
        refine wp_region_held_drew (S := fun X => (X.cell? ⟨wr.heap.size, 0, none⟩ = some (.int .i64 xd) ∧ X.cell? ⟨wr.heap.size, 1, none⟩ = some (.int .i64 xa) ∧ X.cell? ⟨wr.heap.size, 2, none⟩ = some (.slice au nb cu)) ∧ X.cell? ⟨b2, off2 + k * 3, none⟩ = some (.int .i64 xd) ∧ X.cell? ⟨b2, off2 + k * 3 + 1, none⟩ = some (.int .i64 xa) ∧ X.cell? ⟨b2, off2 + k * 3 + 2, none⟩ = some (.slice aw nb cw)) (by kernel_rfl) (by exact HCC.out _ (by iterate 8 try (first | assumption | exact belR _ | apply belDr | apply belAlloc))) (fun hHeld => ?_)
        refine wpAnyH_take (i := 0) (oi := _) (v := ?_) rfl (by kernel_rfl) (by kernel_rfl) (by kernel_rfl) (fun _ _ _ h => h) (Or.inl ⟨by rfl, ?_⟩) (by assumption) ?_
        rotate_left
        · intro w hSw
          (try dsimp only at hSw)
          go_simp
          try with_reducible rfl
        try simp only [Act.put, List.getElem_toArray, List.getElem_cons_zero, List.getElem_cons_succ, List.setIfInBounds_toArray, List.set_cons_zero, List.set_cons_succ]
        refine wpAnyH_take (i := 2) (oi := _) (v := ?_) rfl (by kernel_rfl) (by kernel_rfl) (by kernel_rfl) (fun _ _ _ h => h) (Or.inl ⟨by rfl, ?_⟩) (by assumption) ?_
        rotate_left
        · intro w hSw
          (try dsimp only at hSw)
          go_simp
          try with_reducible rfl
        try simp only [Act.put, List.getElem_toArray, List.getElem_cons_zero, List.getElem_cons_succ, List.setIfInBounds_toArray, List.set_cons_zero, List.set_cons_succ]
        refine wpAnyH_take (i := 3) (oi := _) (v := ?_) rfl (by kernel_rfl) (by kernel_rfl) (by kernel_rfl) (fun _ _ _ h => h) (Or.inl ⟨by rfl, ?_⟩) (by assumption) ?_
        rotate_left
        · intro w hSw
          (try dsimp only at hSw)
          go_simp
          try with_reducible rfl
        try simp only [Act.put, List.getElem_toArray, List.getElem_cons_zero, List.getElem_cons_succ, List.setIfInBounds_toArray, List.set_cons_zero, List.set_cons_succ]
        refine wpAnyH_take (i := 1) (oi := _) (v := ?_) rfl (by kernel_rfl) (by kernel_rfl) (by kernel_rfl) (fun _ _ _ h => h) (Or.inl ⟨by rfl, ?_⟩) (by assumption) ?_
        rotate_left
        · intro w hSw
          (try dsimp only at hSw)
          go_simp
          try with_reducible rfl
        try simp only [Act.put, List.getElem_toArray, List.getElem_cons_zero, List.getElem_cons_succ, List.setIfInBounds_toArray, List.set_cons_zero, List.set_cons_succ]
        refine wpAnyH_take (i := 4) (oi := _) (v := ?_) rfl (by kernel_rfl) (by kernel_rfl) (by kernel_rfl) (fun _ _ _ h => h) (Or.inl ⟨by rfl, ?_⟩) (by assumption) ?_
        rotate_left
        · intro w hSw
          (try dsimp only at hSw)
          go_simp
          try with_reducible rfl
        try simp only [Act.put, List.getElem_toArray, List.getElem_cons_zero, List.getElem_cons_succ, List.setIfInBounds_toArray, List.set_cons_zero, List.set_cons_succ]
        refine wpAnyH_take (i := 5) (oi := _) (v := ?_) rfl (by kernel_rfl) (by kernel_rfl) (by kernel_rfl) (fun _ _ _ h => h) (Or.inl ⟨by rfl, ?_⟩) (by assumption) ?_
        rotate_left
        · intro w hSw
          (try dsimp only at hSw)
          go_simp
          try with_reducible rfl
        try simp only [Act.put, List.getElem_toArray, List.getElem_cons_zero, List.getElem_cons_succ, List.setIfInBounds_toArray, List.set_cons_zero, List.set_cons_succ]
        refine wpAnyH_take (i := 6) (oi := _) (v := ?_) rfl (by kernel_rfl) (by kernel_rfl) (by kernel_rfl) (fun _ _ _ h => h) (Or.inl ⟨by rfl, ?_⟩) (by assumption) ?_
        rotate_left
        · intro w hSw
          (try dsimp only at hSw)
          go_simp
          try with_reducible rfl
        try simp only [Act.put, List.getElem_toArray, List.getElem_cons_zero, List.getElem_cons_succ, List.setIfInBounds_toArray, List.set_cons_zero, List.set_cons_succ]
        refine wpAnyH_take (i := 7) (oi := _) (v := ?_) rfl (by kernel_rfl) (by kernel_rfl) (by kernel_rfl) (fun _ _ _ h => h) (Or.inl ⟨by rfl, ?_⟩) (by assumption) ?_
        rotate_left
        · intro w hSw
          (try dsimp only at hSw)
          go_simp
          try with_reducible rfl
        try simp only [Act.put, List.getElem_toArray, List.getElem_cons_zero, List.getElem_cons_succ, List.setIfInBounds_toArray, List.set_cons_zero, List.set_cons_succ]
        refine wpAnyH_take (i := 8) (oi := _) (v := ?_) rfl (by kernel_rfl) (by kernel_rfl) (by kernel_rfl) (fun _ _ _ h => h) (Or.inl ⟨by rfl, ?_⟩) (by assumption) ?_
        rotate_left
        · intro w hSw
          (try dsimp only at hSw)
          go_simp
          try with_reducible rfl
        try simp only [Act.put, List.getElem_toArray, List.getElem_cons_zero, List.getElem_cons_succ, List.setIfInBounds_toArray, List.set_cons_zero, List.set_cons_succ]
        refine wpAnyH_take (i := 9) (oi := _) (v := ?_) rfl (by kernel_rfl) (by kernel_rfl) (by kernel_rfl) (fun _ _ _ h => h) (Or.inl ⟨by rfl, ?_⟩) (by assumption) ?_
        rotate_left
        · intro w hSw
          (try dsimp only at hSw)
          go_simp
          try with_reducible rfl
        try simp only [Act.put, List.getElem_toArray, List.getElem_cons_zero, List.getElem_cons_succ, List.setIfInBounds_toArray, List.set_cons_zero, List.set_cons_succ]
        refine wpAnyH_take (i := 11) (oi := _) (v := ?_) rfl (by kernel_rfl) (by kernel_rfl) (by kernel_rfl) (fun _ _ _ h => h) (Or.inl ⟨by rfl, ?_⟩) (by assumption) ?_
        rotate_left
        · intro w hSw
          (try dsimp only at hSw)
          go_simp
          try with_reducible rfl
        try simp only [Act.put, List.getElem_toArray, List.getElem_cons_zero, List.getElem_cons_succ, List.setIfInBounds_toArray, List.set_cons_zero, List.set_cons_succ]
        refine wpAnyH_take (i := 12) (oi := _) (v := ?_) rfl (by kernel_rfl) (by kernel_rfl) (by kernel_rfl) (fun _ _ _ h => h) (Or.inl ⟨by rfl, ?_⟩) (by assumption) ?_
        rotate_left
        · intro w hSw
          (try dsimp only at hSw)
          go_simp
          try with_reducible rfl
        try simp only [Act.put, List.getElem_toArray, List.getElem_cons_zero, List.getElem_cons_succ, List.setIfInBounds_toArray, List.set_cons_zero, List.set_cons_succ]
        refine wpAnyH_take (i := 10) (oi := _) (v := ?_) rfl (by kernel_rfl) (by kernel_rfl) (by kernel_rfl) (fun _ _ _ h => h) (Or.inl ⟨by rfl, ?_⟩) (by assumption) ?_
        rotate_left
        · intro w hSw
          (try dsimp only at hSw)
          go_simp
          try with_reducible rfl
        try simp only [Act.put, List.getElem_toArray, List.getElem_cons_zero, List.getElem_cons_succ, List.setIfInBounds_toArray, List.set_cons_zero, List.set_cons_succ]
        refine wpAnyH_take (i := 13) (oi := _) (v := ?_) rfl (by kernel_rfl) (by kernel_rfl) (by kernel_rfl) (fun _ _ _ h => h) (Or.inl ⟨by rfl, ?_⟩) (by assumption) ?_
        rotate_left
        · intro w hSw
          (try dsimp only at hSw)
          go_simp
          try with_reducible rfl
        try simp only [Act.put, List.getElem_toArray, List.getElem_cons_zero, List.getElem_cons_succ, List.setIfInBounds_toArray, List.set_cons_zero, List.set_cons_succ]
        refine wpAnyH_take (i := 14) (oi := _) (v := ?_) rfl (by kernel_rfl) (by kernel_rfl) (by kernel_rfl) (fun _ _ _ h => h) (Or.inl ⟨by rfl, ?_⟩) (by assumption) ?_
        rotate_left
        · intro w hSw
          (try dsimp only at hSw)
          go_simp
          try with_reducible rfl
        try simp only [Act.put, List.getElem_toArray, List.getElem_cons_zero, List.getElem_cons_succ, List.setIfInBounds_toArray, List.set_cons_zero, List.set_cons_succ]
        refine wpAnyH_take (i := 15) (oi := _) (v := ?_) rfl (by kernel_rfl) (by kernel_rfl) (by kernel_rfl) (fun _ _ _ h => h) (Or.inl ⟨by rfl, ?_⟩) (by assumption) ?_
        rotate_left
        · intro w hSw
          (try dsimp only at hSw)
          go_simp
          try with_reducible rfl
        try simp only [Act.put, List.getElem_toArray, List.getElem_cons_zero, List.getElem_cons_succ, List.setIfInBounds_toArray, List.set_cons_zero, List.set_cons_succ]
        refine wpAnyH_take (i := 16) (oi := _) (v := ?_) rfl (by kernel_rfl) (by kernel_rfl) (by kernel_rfl) (fun _ _ _ h => h) (Or.inl ⟨by rfl, ?_⟩) (by assumption) ?_
        rotate_left
        · intro w hSw
          (try dsimp only at hSw)
          go_simp
          try with_reducible rfl
        try simp only [Act.put, List.getElem_toArray, List.getElem_cons_zero, List.getElem_cons_succ, List.setIfInBounds_toArray, List.set_cons_zero, List.set_cons_succ]
        refine wpAnyH_take (i := 17) (oi := _) (v := ?_) rfl (by kernel_rfl) (by kernel_rfl) (by kernel_rfl) (fun _ _ _ h => h) (Or.inl ⟨by rfl, ?_⟩) (by assumption) ?_
        rotate_left
        · intro w hSw
          (try dsimp only at hSw)
          go_simp
          try with_reducible rfl
        try simp only [Act.put, List.getElem_toArray, List.getElem_cons_zero, List.getElem_cons_succ, List.setIfInBounds_toArray, List.set_cons_zero, List.set_cons_succ]
        refine wpAnyH_take (i := 18) (oi := _) (v := ?_) rfl (by kernel_rfl) (by kernel_rfl) (by kernel_rfl) (fun _ _ _ h => h) (Or.inl ⟨by rfl, ?_⟩) (by assumption) ?_
        rotate_left
        · intro w hSw
          (try dsimp only at hSw)
          go_simp
          try with_reducible rfl
        try simp only [Act.put, List.getElem_toArray, List.getElem_cons_zero, List.getElem_cons_succ, List.setIfInBounds_toArray, List.set_cons_zero, List.set_cons_succ]
        refine wpAnyH_take (i := 19) (oi := _) (v := ?_) rfl (by kernel_rfl) (by kernel_rfl) (by kernel_rfl) (fun _ _ _ h => h) (Or.inl ⟨by rfl, ?_⟩) (by assumption) ?_
        rotate_left
        · intro w hSw
          (try dsimp only at hSw)
          go_simp
          try with_reducible rfl
        try simp only [Act.put, List.getElem_toArray, List.getElem_cons_zero, List.getElem_cons_succ, List.setIfInBounds_toArray, List.set_cons_zero, List.set_cons_succ]
        refine wpAnyH_take (i := 21) (oi := _) (v := ?_) rfl (by kernel_rfl) (by kernel_rfl) (by kernel_rfl) (fun _ _ _ h => h) (Or.inl ⟨by rfl, ?_⟩) (by assumption) ?_
        rotate_left
        · intro w hSw
          (try dsimp only at hSw)
          go_simp
          try with_reducible rfl
        try simp only [Act.put, List.getElem_toArray, List.getElem_cons_zero, List.getElem_cons_succ, List.setIfInBounds_toArray, List.set_cons_zero, List.set_cons_succ]
        refine wpAnyH_take (i := 22) (oi := _) (v := ?_) rfl (by kernel_rfl) (by kernel_rfl) (by kernel_rfl) (fun _ _ _ h => h) (Or.inl ⟨by rfl, ?_⟩) (by assumption) ?_
        rotate_left
        · intro w hSw
          (try dsimp only at hSw)
          go_simp
          try with_reducible rfl
        try simp only [Act.put, List.getElem_toArray, List.getElem_cons_zero, List.getElem_cons_succ, List.setIfInBounds_toArray, List.set_cons_zero, List.set_cons_succ]
        refine wpAnyH_take (i := 20) (oi := _) (v := ?_) rfl (by kernel_rfl) (by kernel_rfl) (by kernel_rfl) (fun _ _ _ h => h) (Or.inl ⟨by rfl, ?_⟩) (by assumption) ?_
        rotate_left
        · intro w hSw
          (try dsimp only at hSw)
          go_simp
          try with_reducible rfl
        try simp only [Act.put, List.getElem_toArray, List.getElem_cons_zero, List.getElem_cons_succ, List.setIfInBounds_toArray, List.set_cons_zero, List.set_cons_succ]
        refine wpAnyH_take (i := 23) (oi := _) (v := ?_) rfl (by kernel_rfl) (by kernel_rfl) (by kernel_rfl) (fun _ _ _ h => h) (Or.inl ⟨by rfl, ?_⟩) (by assumption) ?_
        rotate_left
        · intro w hSw
          (try dsimp only at hSw)
          go_simp
          try with_reducible rfl
        try simp only [Act.put, List.getElem_toArray, List.getElem_cons_zero, List.getElem_cons_succ, List.setIfInBounds_toArray, List.set_cons_zero, List.set_cons_succ]
        refine wpAnyH_take (i := 24) (oi := _) (v := ?_) rfl (by kernel_rfl) (by kernel_rfl) (by kernel_rfl) (fun _ _ _ h => h) (Or.inl ⟨by rfl, ?_⟩) (by assumption) ?_
        rotate_left
        · intro w hSw
          (try dsimp only at hSw)
          go_simp
          try with_reducible rfl
        try simp only [Act.put, List.getElem_toArray, List.getElem_cons_zero, List.getElem_cons_succ, List.setIfInBounds_toArray, List.set_cons_zero, List.set_cons_succ]
        refine wpAnyH_take (i := 25) (oi := _) (v := ?_) rfl (by kernel_rfl) (by kernel_rfl) (by kernel_rfl) (fun _ _ _ h => h) (Or.inl ⟨by rfl, ?_⟩) (by assumption) ?_
        rotate_left
        · intro w hSw
          (try dsimp only at hSw)
          go_simp
          try with_reducible rfl
        try simp only [Act.put, List.getElem_toArray, List.getElem_cons_zero, List.getElem_cons_succ, List.setIfInBounds_toArray, List.set_cons_zero, List.set_cons_succ]
        refine wpAnyH_ready (rs := [26]) (by kernel_rfl) (by simp) ?_
        refine AllReadyH.cons (o := _) rfl (fun K hK => ?_) AllReadyH.nil
        rw [if_pos (by rfl)]
        go_simp
        refine Calls.mono (same_any _ _ xb xb _ (HE1.out.up (belT (belA1 (belR _)) (by iterate 8 try (first | assumption | exact belR _ | apply belDr | apply belAlloc)))) (HE2.out.up (belT (belA1 (belR _)) (by iterate 8 try (first | assumption | exact belR _ | apply belDr | apply belAlloc))))) ?_
        rw [decide_eq_true rfl]
        rintro e w8 ⟨rfl, d8⟩
        have B8 : Below (wr.alloc (.cells #[.int .i64 xd, .int .i64 xa, .slice au nb cu] 75)).heap.size (wr.alloc (.cells #[.int .i64 xd, .int .i64 xa, .slice au nb cu] 75)) w8 := belT (by iterate 8 try (first | assumption | exact belR _ | apply belDr | apply belAlloc)) (d8.below _)
        try go_simp
        refine hK.out _ _ (by exact HCC.out _ B8) (fun hHeld => ?_)
        clear hK K
        try simp only [Act.put, List.getElem_toArray, List.getElem_cons_zero, List.getElem_cons_succ, List.setIfInBounds_toArray, List.set_cons_zero, List.set_cons_succ]
        refine wpAnyH_take (i := 27) (oi := _) (v := ?_) rfl (by kernel_rfl) (by kernel_rfl) (by kernel_rfl) (fun _ _ _ h => h) (Or.inl ⟨by rfl, ?_⟩) (by assumption) ?_
        rotate_left
        · intro w hSw
          (try dsimp only at hSw)
          go_simp
          try with_reducible rfl
        try simp only [Act.put, List.getElem_toArray, List.getElem_cons_zero, List.getElem_cons_succ, List.setIfInBounds_toArray, List.set_cons_zero, List.set_cons_succ]
        refine wpAnyH_take (i := 28) (oi := _) (v := ?_) rfl (by kernel_rfl) (by kernel_rfl) (by kernel_rfl) (fun _ _ _ h => h) (Or.inl ⟨by rfl, ?_⟩) (by assumption) ?_
        rotate_left
        · intro w hSw
          (try dsimp only at hSw)
          go_simp
          try with_reducible rfl
        try simp only [Act.put, List.getElem_toArray, List.getElem_cons_zero, List.getElem_cons_succ, List.setIfInBounds_toArray, List.set_cons_zero, List.set_cons_succ]
        refine wpAnyH_done (by kernel_rfl) ?_ _
        go_wp2
        go_roundw
        case rel => exact ⟨k + 1, HLT.out, congrArg (Value.int .i64) (kw1 HLT.out HNL.out HLEN.out), by first | exact belT BX (belT (belA1 (belR _)) B8) | exact belDr (belT BX (belT (belA1 (belR _)) B8))⟩
        case measure => exact kw2 HLT.out HNL.out HLEN.out
      · have hkB : decide ((k : Int) < (nL : Int)) = false := by rw [decide_eq_false_iff_not]; omega
        have hkP : ((k : Int) < (nL : Int)) = False := by rw [eq_iff_iff]; exact ⟨fun h => by omega, fun h => h.elim⟩
        clear hlt
        go_wp2_with fail
        refine Calls.mono (wakes11_any _) ?_
        rintro e w9 ⟨rfl, b9⟩
        go_wp2_with fail
        go_ret
        exact ⟨rfl, belT B01 (belT B6 (belT b7 (belT BX b9)))⟩
  · go_wp2_with fail
    refine Calls.mono (refof_any _ lR _ HID.out HLEN.out) ?_
    rintro e w7 ⟨v7, rfl, I7, b7⟩
    obtain ⟨a7, c7, e7, _⟩ := I7.shape
    rw [← HNL.out] at e7
    subst e7
    have HI7 := Lib.hid I7
    have HIR7 := Lib.hid (HIR.out.up b7)
    clear x0 x1 I7
    go_wp2_with fail
    go_loopw [139] (fun i X => ∃ k : Nat, k ≤ nL ∧ i = .int .i64 k ∧ Below w7.heap.size w7 X) (fun i _ => nL - (intOf i).toNat)
    case atStart => exact ⟨0, by omega, rfl, belR _⟩
    case round =>
      obtain ⟨k, hk, rfl, BX⟩ := hrel
      by_cases hlt : k < nL
      · obtain ⟨b', off', x, ux, rfl, hbl, hx, hit⟩ := Items.get HI7.out hlt
        obtain ⟨b2, off2, y, uy, rfl, hbl2, hy, hit2⟩ := Items.get HIR7.out hlt
        have hxy : y = x := by have := hx.out; rw [hy.out] at this; exact Option.some.inj this
        subst hxy
        obtain ⟨e0, e1, e2, ex, i1, i2⟩ := hit.up BX hbl
        obtain ⟨f0, f1, f2, ey, _⟩ := hit2.up BX hbl2
        obtain ⟨au, cu, rfl, _, _⟩ := ex.shape
        obtain ⟨aw, cw, rfl, _, _⟩ := ey.shape
        obtain ⟨xd, xa, xb⟩ := y
        dsimp only at *
        obtain ⟨nb, hnb⟩ : ∃ nb, nb = xb.length := ⟨_, rfl⟩
        rw [← hnb] at e2 f2 ex ey
        have HE1 := Lib.hid ex
        have HE2 := Lib.hid ey
        have HCC : Hid (∀ X, Below (wr.alloc (.cells #[.int .i64 xd, .int .i64 xa, .slice au nb cu] 75)).heap.size (wr.alloc (.cells #[.int .i64 xd, .int .i64 xa, .slice au nb cu] 75)) X → (X.cell? ⟨wr.heap.size, 0, none⟩ = some (.int .i64 xd) ∧ X.cell? ⟨wr.heap.size, 1, none⟩ = some (.int .i64 xa) ∧ X.cell? ⟨wr.heap.size, 2, none⟩ = some (.slice au nb cu)) ∧ X.cell? ⟨b2, off2 + k * 3, none⟩ = some (.int .i64 xd) ∧ X.cell? ⟨b2, off2 + k * 3 + 1, none⟩ = some (.int .i64 xa) ∧ X.cell? ⟨b2, off2 + k * 3 + 2, none⟩ = some (.slice aw nb cw)) := fun X hX => ⟨⟨box_up hX 0 rfl, box_up hX 1 rfl, box_up hX 2 rfl⟩, cell_fr f0 (Fr.of_below (S := fun _ => False) (belT (belA1 (belR _)) hX)) id, cell_fr f1 (Fr.of_below (S := fun _ => False) (belT (belA1 (belR _)) hX)) id, cell_fr f2 (Fr.of_below (S := fun _ => False) (belT (belA1 (belR _)) hX)) id⟩
        have hdd : (xd != xd) = false := by simp
        have haa : (xa != xa) = false := by simp
        have HLT := Lib.hid hlt
        have hki : (k : Int) < (nL : Int) := by omega
        have hki0 : (0 : Int) ≤ (k : Int) := by omega
        clear ex ey hit hit2 hnb f0 f1 f2
        go_wp2_with fail
        clear e0 e1 e2
        refine wp_region_held_drew (S := fun X => (X.cell? ⟨wr.heap.size, 0, none⟩ = some (.int .i64 xd) ∧ X.cell? ⟨wr.heap.size, 1, none⟩ = some (.int .i64 xa) ∧ X.cell? ⟨wr.heap.size, 2, none⟩ = some (.slice au nb cu)) ∧ X.cell? ⟨b2, off2 + k * 3, none⟩ = some (.int .i64 xd) ∧ X.cell? ⟨b2, off2 + k * 3 + 1, none⟩ = some (.int .i64 xa) ∧ X.cell? ⟨b2, off2 + k * 3 + 2, none⟩ = some (.slice aw nb cw)) (by kernel_rfl) (by exact HCC.out _ (by iterate 8 try (first | assumption | exact belR _ | apply belDr | apply belAlloc))) (fun hHeld => ?_)
        refine wpAnyH_take (i := 0) (oi := _) (v := ?_) rfl (by kernel_rfl) (by kernel_rfl) (by kernel_rfl) (fun _ _ _ h => h) (Or.inl ⟨by rfl, ?_⟩) (by assumption) ?_
        rotate_left
        · intro w hSw
          (try dsimp only at hSw)
          go_simp
          try with_reducible rfl
        try simp only [Act.put, List.getElem_toArray, List.getElem_cons_zero, List.getElem_cons_succ, List.setIfInBounds_toArray, List.set_cons_zero, List.set_cons_succ]
        refine wpAnyH_take (i := 2) (oi := _) (v := ?_) rfl (by kernel_rfl) (by kernel_rfl) (by kernel_rfl) (fun _ _ _ h => h) (Or.inl ⟨by rfl, ?_⟩) (by assumption) ?_
        rotate_left
        · intro w hSw
          (try dsimp only at hSw)
          go_simp
          try with_reducible rfl
        try simp only [Act.put, List.getElem_toArray, List.getElem_cons_zero, List.getElem_cons_succ, List.setIfInBounds_toArray, List.set_cons_zero, List.set_cons_succ]
        refine wpAnyH_take (i := 3) (oi := _) (v := ?_) rfl (by kernel_rfl) (by kernel_rfl) (by kernel_rfl) (fun _ _ _ h => h) (Or.inl ⟨by rfl, ?_⟩) (by assumption) ?_
        rotate_left
        · intro w hSw
          (try dsimp only at hSw)
          go_simp
          try with_reducible rfl
        try simp only [Act.put, List.getElem_toArray, List.getElem_cons_zero, List.getElem_cons_succ, List.setIfInBounds_toArray, List.set_cons_zero, List.set_cons_succ]
        refine wpAnyH_take (i := 1) (oi := _) (v := ?_) rfl (by kernel_rfl) (by kernel_rfl) (by kernel_rfl) (fun _ _ _ h => h) (Or.inl ⟨by rfl, ?_⟩) (by assumption) ?_
        rotate_left
        · intro w hSw
          (try dsimp only at hSw)
          go_simp
          try with_reducible rfl
        try simp only [Act.put, List.getElem_toArray, List.getElem_cons_zero, List.getElem_cons_succ, List.setIfInBounds_toArray, List.set_cons_zero, List.set_cons_succ]
        refine wpAnyH_take (i := 4) (oi := _) (v := ?_) rfl (by kernel_rfl) (by kernel_rfl) (by kernel_rfl) (fun _ _ _ h => h) (Or.inl ⟨by rfl, ?_⟩) (by assumption) ?_
        rotate_left
        · intro w hSw
          (try dsimp only at hSw)
          go_simp
          try with_reducible rfl
        try simp only [Act.put, List.getElem_toArray, List.getElem_cons_zero, List.getElem_cons_succ, List.setIfInBounds_toArray, List.set_cons_zero, List.set_cons_succ]
        refine wpAnyH_take (i := 5) (oi := _) (v := ?_) rfl (by kernel_rfl) (by kernel_rfl) (by kernel_rfl) (fun _ _ _ h => h) (Or.inl ⟨by rfl, ?_⟩) (by assumption) ?_
        rotate_left
        · intro w hSw
          (try dsimp only at hSw)
          go_simp
          try with_reducible rfl
        try simp only [Act.put, List.getElem_toArray, List.getElem_cons_zero, List.getElem_cons_succ, List.setIfInBounds_toArray, List.set_cons_zero, List.set_cons_succ]
        refine wpAnyH_take (i := 6) (oi := _) (v := ?_) rfl (by kernel_rfl) (by kernel_rfl) (by kernel_rfl) (fun _ _ _ h => h) (Or.inl ⟨by rfl, ?_⟩) (by assumption) ?_
        rotate_left
        · intro w hSw
          (try dsimp only at hSw)
          go_simp
          try with_reducible rfl
        try simp only [Act.put, List.getElem_toArray, List.getElem_cons_zero, List.getElem_cons_succ, List.setIfInBounds_toArray, List.set_cons_zero, List.set_cons_succ]
        refine wpAnyH_take (i := 7) (oi := _) (v := ?_) rfl (by kernel_rfl) (by kernel_rfl) (by kernel_rfl) (fun _ _ _ h => h) (Or.inl ⟨by rfl, ?_⟩) (by assumption) ?_
        rotate_left
        · intro w hSw
          (try dsimp only at hSw)
          go_simp
          try with_reducible rfl
        try simp only [Act.put, List.getElem_toArray, List.getElem_cons_zero, List.getElem_cons_succ, List.setIfInBounds_toArray, List.set_cons_zero, List.set_cons_succ]
        refine wpAnyH_take (i := 8) (oi := _) (v := ?_) rfl (by kernel_rfl) (by kernel_rfl) (by kernel_rfl) (fun _ _ _ h => h) (Or.inl ⟨by rfl, ?_⟩) (by assumption) ?_
        rotate_left
        · intro w hSw
          (try dsimp only at hSw)
          go_simp
          try with_reducible rfl
        try simp only [Act.put, List.getElem_toArray, List.getElem_cons_zero, List.getElem_cons_succ, List.setIfInBounds_toArray, List.set_cons_zero, List.set_cons_succ]
        refine wpAnyH_take (i := 9) (oi := _) (v := ?_) rfl (by kernel_rfl) (by kernel_rfl) (by kernel_rfl) (fun _ _ _ h => h) (Or.inl ⟨by rfl, ?_⟩) (by assumption) ?_
        rotate_left
        · intro w hSw
          (try dsimp only at hSw)
          go_simp
          try with_reducible rfl
        try simp only [Act.put, List.getElem_toArray, List.getElem_cons_zero, List.getElem_cons_succ, List.setIfInBounds_toArray, List.set_cons_zero, List.set_cons_succ]
        refine wpAnyH_take (i := 11) (oi := _) (v := ?_) rfl (by kernel_rfl) (by kernel_rfl) (by kernel_rfl) (fun _ _ _ h => h) (Or.inl ⟨by rfl, ?_⟩) (by assumption) ?_
        rotate_left
        · intro w hSw
          (try dsimp only at hSw)
          go_simp
          try with_reducible rfl
        try simp only [Act.put, List.getElem_toArray, List.getElem_cons_zero, List.getElem_cons_succ, List.setIfInBounds_toArray, List.set_cons_zero, List.set_cons_succ]
        refine wpAnyH_take (i := 12) (oi := _) (v := ?_) rfl (by kernel_rfl) (by kernel_rfl) (by kernel_rfl) (fun _ _ _ h => h) (Or.inl ⟨by rfl, ?_⟩) (by assumption) ?_
        rotate_left
        · intro w hSw
          (try dsimp only at hSw)
          go_simp
          try with_reducible rfl
        try simp only [Act.put, List.getElem_toArray, List.getElem_cons_zero, List.getElem_cons_succ, List.setIfInBounds_toArray, List.set_cons_zero, List.set_cons_succ]
        refine wpAnyH_take (i := 10) (oi := _) (v := ?_) rfl (by kernel_rfl) (by kernel_rfl) (by kernel_rfl) (fun _ _ _ h => h) (Or.inl ⟨by rfl, ?_⟩) (by assumption) ?_
        rotate_left
        · intro w hSw
          (try dsimp only at hSw)
          go_simp
          try with_reducible rfl
        try simp only [Act.put, List.getElem_toArray, List.getElem_cons_zero, List.getElem_cons_succ, List.setIfInBounds_toArray, List.set_cons_zero, List.set_cons_succ]
        refine wpAnyH_take (i := 13) (oi := _) (v := ?_) rfl (by kernel_rfl) (by kernel_rfl) (by kernel_rfl) (fun _ _ _ h => h) (Or.inl ⟨by rfl, ?_⟩) (by assumption) ?_
        rotate_left
        · intro w hSw
          (try dsimp only at hSw)
          go_simp
          try with_reducible rfl
        try simp only [Act.put, List.getElem_toArray, List.getElem_cons_zero, List.getElem_cons_succ, List.setIfInBounds_toArray, List.set_cons_zero, List.set_cons_succ]
        refine wpAnyH_take (i := 14) (oi := _) (v := ?_) rfl (by kernel_rfl) (by kernel_rfl) (by kernel_rfl) (fun _ _ _ h => h) (Or.inl ⟨by rfl, ?_⟩) (by assumption) ?_
        rotate_left
        · intro w hSw
          (try dsimp only at hSw)
          go_simp
          try with_reducible rfl
        try simp only [Act.put, List.getElem_toArray, List.getElem_cons_zero, List.getElem_cons_succ, List.setIfInBounds_toArray, List.set_cons_zero, List.set_cons_succ]
        refine wpAnyH_take (i := 15) (oi := _) (v := ?_) rfl (by kernel_rfl) (by kernel_rfl) (by kernel_rfl) (fun _ _ _ h => h) (Or.inl ⟨by rfl, ?_⟩) (by assumption) ?_
        rotate_left
        · intro w hSw
          (try dsimp only at hSw)
          go_simp
          try with_reducible rfl
        try simp only [Act.put, List.getElem_toArray, List.getElem_cons_zero, List.getElem_cons_succ, List.setIfInBounds_toArray, List.set_cons_zero, List.set_cons_succ]
        refine wpAnyH_take (i := 16) (oi := _) (v := ?_) rfl (by kernel_rfl) (by kernel_rfl) (by kernel_rfl) (fun _ _ _ h => h) (Or.inl ⟨by rfl, ?_⟩) (by assumption) ?_
        rotate_left
        · intro w hSw
          (try dsimp only at hSw)
          go_simp
          try with_reducible rfl
        try simp only [Act.put, List.getElem_toArray, List.getElem_cons_zero, List.getElem_cons_succ, List.setIfInBounds_toArray, List.set_cons_zero, List.set_cons_succ]
        refine wpAnyH_take (i := 17) (oi := _) (v := ?_) rfl (by kernel_rfl) (by kernel_rfl) (by kernel_rfl) (fun _ _ _ h => h) (Or.inl ⟨by rfl, ?_⟩) (by assumption) ?_
        rotate_left
        · intro w hSw
          (try dsimp only at hSw)
          go_simp
          try with_reducible rfl
        try simp only [Act.put, List.getElem_toArray, List.getElem_cons_zero, List.getElem_cons_succ, List.setIfInBounds_toArray, List.set_cons_zero, List.set_cons_succ]
        refine wpAnyH_take (i := 18) (oi := _) (v := ?_) rfl (by kernel_rfl) (by kernel_rfl) (by kernel_rfl) (fun _ _ _ h => h) (Or.inl ⟨by rfl, ?_⟩) (by assumption) ?_
        rotate_left
        · intro w hSw
          (try dsimp only at hSw)
          go_simp
          try with_reducible rfl
        try simp only [Act.put, List.getElem_toArray, List.getElem_cons_zero, List.getElem_cons_succ, List.setIfInBounds_toArray, List.set_cons_zero, List.set_cons_succ]
        refine wpAnyH_take (i := 19) (oi := _) (v := ?_) rfl (by kernel_rfl) (by kernel_rfl) (by kernel_rfl) (fun _ _ _ h => h) (Or.inl ⟨by rfl, ?_⟩) (by assumption) ?_
        rotate_left
        · intro w hSw
          (try dsimp only at hSw)
          go_simp
          try with_reducible rfl
        try simp only [Act.put, List.getElem_toArray, List.getElem_cons_zero, List.getElem_cons_succ, List.setIfInBounds_toArray, List.set_cons_zero, List.set_cons_succ]
        refine wpAnyH_take (i := 21) (oi := _) (v := ?_) rfl (by kernel_rfl) (by kernel_rfl) (by kernel_rfl) (fun _ _ _ h => h) (Or.inl ⟨by rfl, ?_⟩) (by assumption) ?_
        rotate_left
        · intro w hSw
          (try dsimp only at hSw)
          go_simp
          try with_reducible rfl
        try simp only [Act.put, List.getElem_toArray, List.getElem_cons_zero, List.getElem_cons_succ, List.setIfInBounds_toArray, List.set_cons_zero, List.set_cons_succ]
        refine wpAnyH_take (i := 22) (oi := _) (v := ?_) rfl (by kernel_rfl) (by kernel_rfl) (by kernel_rfl) (fun _ _ _ h => h) (Or.inl ⟨by rfl, ?_⟩) (by assumption) ?_
        rotate_left
        · intro w hSw
          (try dsimp only at hSw)
          go_simp
          try with_reducible rfl
        try simp only [Act.put, List.getElem_toArray, List.getElem_cons_zero, List.getElem_cons_succ, List.setIfInBounds_toArray, List.set_cons_zero, List.set_cons_succ]
        refine wpAnyH_take (i := 20) (oi := _) (v := ?_) rfl (by kernel_rfl) (by kernel_rfl) (by kernel_rfl) (fun _ _ _ h => h) (Or.inl ⟨by rfl, ?_⟩) (by assumption) ?_
        rotate_left
        · intro w hSw
          (try dsimp only at hSw)
          go_simp
          try with_reducible rfl
        try simp only [Act.put, List.getElem_toArray, List.getElem_cons_zero, List.getElem_cons_succ, List.setIfInBounds_toArray, List.set_cons_zero, List.set_cons_succ]
        refine wpAnyH_take (i := 23) (oi := _) (v := ?_) rfl (by kernel_rfl) (by kernel_rfl) (by kernel_rfl) (fun _ _ _ h => h) (Or.inl ⟨by rfl, ?_⟩) (by assumption) ?_
        rotate_left
        · intro w hSw
          (try dsimp only at hSw)
          go_simp
          try with_reducible rfl
        try simp only [Act.put, List.getElem_toArray, List.getElem_cons_zero, List.getElem_cons_succ, List.setIfInBounds_toArray, List.set_cons_zero, List.set_cons_succ]
        refine wpAnyH_take (i := 24) (oi := _) (v := ?_) rfl (by kernel_rfl) (by kernel_rfl) (by kernel_rfl) (fun _ _ _ h => h) (Or.inl ⟨by rfl, ?_⟩) (by assumption) ?_
        rotate_left
        · intro w hSw
          (try dsimp only at hSw)
          go_simp
          try with_reducible rfl
        try simp only [Act.put, List.getElem_toArray, List.getElem_cons_zero, List.getElem_cons_succ, List.setIfInBounds_toArray, List.set_cons_zero, List.set_cons_succ]
        refine wpAnyH_take (i := 25) (oi := _) (v := ?_) rfl (by kernel_rfl) (by kernel_rfl) (by kernel_rfl) (fun _ _ _ h => h) (Or.inl ⟨by rfl, ?_⟩) (by assumption) ?_
        rotate_left
        · intro w hSw
          (try dsimp only at hSw)
          go_simp
          try with_reducible rfl
        try simp only [Act.put, List.getElem_toArray, List.getElem_cons_zero, List.getElem_cons_succ, List.setIfInBounds_toArray, List.set_cons_zero, List.set_cons_succ]
        refine wpAnyH_ready (rs := [26]) (by kernel_rfl) (by simp) ?_
        refine AllReadyH.cons (o := _) rfl (fun K hK => ?_) AllReadyH.nil
        rw [if_pos (by rfl)]
        go_simp
        refine Calls.mono (same_any _ _ xb xb _ (HE1.out.up (belT (belA1 (belR _)) (by iterate 8 try (first | assumption | exact belR _ | apply belDr | apply belAlloc)))) (HE2.out.up (belT (belA1 (belR _)) (by iterate 8 try (first | assumption | exact belR _ | apply belDr | apply belAlloc))))) ?_
        rw [decide_eq_true rfl]
        rintro e w8 ⟨rfl, d8⟩
        have B8 : Below (wr.alloc (.cells #[.int .i64 xd, .int .i64 xa, .slice au nb cu] 75)).heap.size (wr.alloc (.cells #[.int .i64 xd, .int .i64 xa, .slice au nb cu] 75)) w8 := belT (by iterate 8 try (first | assumption | exact belR _ | apply belDr | apply belAlloc)) (d8.below _)
        try go_simp
        refine hK.out _ _ (by exact HCC.out _ B8) (fun hHeld => ?_)
        clear hK K
        try simp only [Act.put, List.getElem_toArray, List.getElem_cons_zero, List.getElem_cons_succ, List.setIfInBounds_toArray, List.set_cons_zero, List.set_cons_succ]
        refine wpAnyH_take (i := 27) (oi := _) (v := ?_) rfl (by kernel_rfl) (by kernel_rfl) (by kernel_rfl) (fun _ _ _ h => h) (Or.inl ⟨by rfl, ?_⟩) (by assumption) ?_
        rotate_left
        · intro w hSw
          (try dsimp only at hSw)
          go_simp
          try with_reducible rfl
        try simp only [Act.put, List.getElem_toArray, List.getElem_cons_zero, List.getElem_cons_succ, List.setIfInBounds_toArray, List.set_cons_zero, List.set_cons_succ]
        refine wpAnyH_take (i := 28) (oi := _) (v := ?_) rfl (by kernel_rfl) (by kernel_rfl) (by kernel_rfl) (fun _ _ _ h => h) (Or.inl ⟨by rfl, ?_⟩) (by assumption) ?_
        rotate_left
        · intro w hSw
          (try dsimp only at hSw)
          go_simp
          try with_reducible rfl
        try simp only [Act.put, List.getElem_toArray, List.getElem_cons_zero, List.getElem_cons_succ, List.setIfInBounds_toArray, List.set_cons_zero, List.set_cons_succ]
        refine wpAnyH_done (by kernel_rfl) ?_ _
        go_wp2
        go_roundw
        case rel => exact ⟨k + 1, HLT.out, congrArg (Value.int .i64) (kw1 HLT.out HNL.out HLEN.out), by first | exact belT BX (belT (belA1 (belR _)) B8) | exact belDr (belT BX (belT (belA1 (belR _)) B8))⟩
        case measure => exact kw2 HLT.out HNL.out HLEN.out
      · have hkB : decide ((k : Int) < (nL : Int)) = false := by rw [decide_eq_false_iff_not]; omega
        have hkP : ((k : Int) < (nL : Int)) = False := by rw [eq_iff_iff]; exact ⟨fun h => by omega, fun h => h.elim⟩
        clear hlt
        go_wp2_with fail
        refine Calls.mono (wakes11_any _) ?_
        rintro e w9 ⟨rfl, b9⟩
        go_wp2_with fail
        go_ret
        exact ⟨rfl, belT B01 (belT B6 (belT b7 (belT BX b9)))⟩
end Go.Proofs.Ytgnnkglmlopldaa
