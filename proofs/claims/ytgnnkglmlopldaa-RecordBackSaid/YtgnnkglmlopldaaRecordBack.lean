/- The walk of RecordBack (chapter 11). True at every input. -/
import Derived.Test.YtgnnkglmlopldaaRecD
import Derived.Test.YtgnnkglmlopldaaRecO
import Derived.Test.YtgnnkglmlopldaaRecS
namespace Go.Proofs.Ytgnnkglmlopldaa
open Go.RowKit C
set_option linter.unusedVariables false
set_option linter.unusedSimpArgs false
set_option maxRecDepth 100000
set_option maxHeartbeats 1000000

theorem tmod60' (n : Int) : i64b (n.tmod 60) := by
  unfold i64b
  rw [tmod_cases]
  split <;> omega
theorem rsame_refl (s : Int) (l : List RI) : rsame s l s l = true := by unfold rsame; simp
theorem recordBack_law (W : World) (seq : Int) (h0 : -9223372036854775808 ≤ seq ∧ seq ≤ 9223372036854775807) (lv : Value) (ll : List Int) (hl : Ints W lv ll) (hll : ll.length * 8 ≤ 140737488351232) (how : Int) (h6 : -9223372036854775808 ≤ how ∧ how ≤ 9223372036854775807) (part : Int) (h7 : -9223372036854775808 ≤ part ∧ part ≤ 9223372036854775807) (at' : Int) (h8 : -9223372036854775808 ≤ at' ∧ at' ≤ 9223372036854775807) (c : Int) (h9 : (0 : Int) ≤ c ∧ c ≤ 255) :
    Calls Try.prog 12 #[.int .i64 seq, lv, .int .i64 how, .int .i64 part, .int .i64 at', .int .u8 c] W fun e W' => e = .returned (.bool true) ∧ Below W.heap.size W W' := by
  have HOF := Lib.hid (of11_any seq (how.tmod 60) lv ll W h0 (tmod60' how) hl)
  have t60 := tmod60' how
  obtain ⟨t60a, t60b⟩ := t60
  obtain ⟨h6a, h6b⟩ := h6
  obtain ⟨h9a, h9b⟩ := h9
  obtain ⟨cc, rfl⟩ := Int.eq_ofNat_of_zero_le h9a
  have hcc : cc < 256 := by omega
  clear h0 hl hll
  go_enter Try.func12, Try.ntmps12
  go_wp2_with fail
  refine Calls.mono HOF.out ?_
  rintro e w1 ⟨s, v, l, rfl, hs, HI, hl6, b1⟩
  obtain ⟨av, cv, ev, _⟩ := HI.shape
  obtain ⟨n, hn⟩ : ∃ n, n = l.length := ⟨_, rfl⟩
  rw [← hn] at ev
  subst ev
  clear hn hl6
  have HI := Lib.hid HI
  obtain ⟨w0, hw0⟩ : ∃ w0, w0 = w1.alloc (.cells #[.int .i64 s, .slice av n cv] 25) := ⟨_, rfl⟩
  have HK : Hid (∀ X, Below w0.heap.size w0 X → X.cell? ⟨w1.heap.size, 0, none⟩ = some (.int .i64 s) ∧ X.cell? ⟨w1.heap.size, 1, none⟩ = some (.slice av n cv)) := by
    intro X hX
    rw [hw0] at hX
    exact box2 hX
  have B0 : Below w1.heap.size w1 w0 := by rw [hw0]; exact belA1 (belR _)
  have B01 : Below W.heap.size W w0 := belT b1 B0
  have HW0 := Lib.hid hw0
  clear hw0
  cases hok : rok s l with
  | false =>
    go_wp2_with fail
    rw [← HW0.out]
    refine Calls.mono (rencode_no s _ l _ hs (HI.out.up B0) hok) ?_
    rintro e w3 ⟨rfl, b3⟩
    go_wp2_with fail
    refine Calls.mono (wakes11_any _) ?_
    rintro e w5 ⟨rfl, b5⟩
    go_wp2_with fail
    go_ret
    exact ⟨rfl, belT B01 (belT b3 b5)⟩
  | true =>
    have HOK := Lib.hid hok
    go_wp2_with fail
    rw [← HW0.out]
    refine Calls.mono (rencode_ok s _ l _ (HI.out.up B0) hok) ?_
    rintro e w3 ⟨v3, rfl, O3, b3⟩
    have h4 : Hid ((renc s l).length = 4) := renc_len ((rok_iff s l).1 hok).2.1
    have h32 : Hid (∀ p ∈ renc s l, p.length = 32) := renc_32 ((rok_iff s l).1 hok).2.1 (rok_fine hok)
    have hb8 : Hid (∀ x ∈ l, ∀ c ∈ x.b, c < 256) := HI.out.bytes
    obtain ⟨a3, c3, e3, q1, q2⟩ := O3.shape
    rw [h4.out] at e3 q1
    subst e3
    have O3 := Lib.hid O3
    go_wp2_with fail
    refine Calls.mono (decode_any _ (renc s l) _ O3.out.parts) ?_
    rintro e w4 ⟨s4, v4, l4, er, rfl, HI4, hs4, b4, hd⟩
    rcases hd with ⟨_, rfl, rfl, rfl⟩ | ⟨hn, _⟩
    · rw [rnum_enc hok, rlist_enc hok] at *
      obtain ⟨av4, cv4, ev4, _⟩ := HI4.shape
      obtain ⟨n4, hn4⟩ : ∃ n, n = l.length := ⟨_, rfl⟩
      rw [← hn4] at ev4
      subst ev4
      have HI4 := Lib.hid HI4
      have B4 := belT b3 b4
      obtain ⟨x0, x1⟩ := HK.out _ B4
      have k0 := fun o => Lib.cell?_alloc_marked o x0
      have k1 := fun o => Lib.cell?_alloc_marked o x1
      clear hn4 hok
      go_wp2_with fail
      refine Calls.mono (rsame_any s s _ _ l l _ (HI4.out.up (belA1 (belR _))) (HI.out.up (belT B0 (belT B4 (belA1 (belR _))))) hs hs) ?_
      rw [rsame_refl]
      rintro e w5 ⟨rfl, b5⟩
      have B45 : Below w4.heap.size w4 w5 := belT (belA1 (belR _)) b5
      have B5 := belT B4 B45
      have O5 := Lib.hid (O3.out.up (belT b4 B45))
      clear x0 x1 k0 k1 O3
      go_wp2_with fail
      refine Calls.mono (within_ex part 4 _ (by decide) (by decide) h7) ?_
      rintro e wa ⟨k, rfl, hk4, rfl⟩
      obtain ⟨rb, ro, c, p, rfl, hcr, hp, hoc, hset, hne1, hlt1, _⟩ := O5.out.get (k := k) (by rw [h4.out]; omega)
      have hp32 : p.length = 32 := h32.out p (List.mem_of_getElem? hp.out)
      have hset := Lib.hid hset
      obtain ⟨gr, cr, rfl, hgr1, hgr2, hgr3, hgr4⟩ := own_shape (n := 32) (by have := hoc.2; rwa [hp32] at this) (by decide)
      have HOC := Lib.hid hoc
      have HP32 := Lib.hid hp32
      have hk0 : (0 : Int) ≤ (k : Int) := by omega
      have HKI : Hid (k < 4) := by show _ < _; omega
      clear hoc hp32
      go_wp2_with fail
      refine wp_region_held_drew (S := fun X => X.cell? ⟨rb, ro + k, none⟩ = some (.slice (some ⟨gr, 0, none⟩) 32 cr)) (by kernel_rfl) (show World.cell? _ _ = _ from hcr) (fun hHeld => ?_)
      refine wpAnyH_take (i := 0) (oi := _) (v := ?_) rfl (by kernel_rfl) (by kernel_rfl) (by kernel_rfl) (fun _ _ _ h => h) (Or.inl ⟨by rfl, ?_⟩) (by assumption) ?_
      rotate_left
      · intro w hSw
        (try dsimp only at hSw)
        go_simp
        try with_reducible rfl
      try simp only [Act.put, List.getElem_toArray, List.getElem_cons_zero, List.getElem_cons_succ, List.setIfInBounds_toArray, List.set_cons_zero, List.set_cons_succ]
      refine wpAnyH_take (i := 1) (oi := _) (v := ?_) rfl (by kernel_rfl) (by kernel_rfl) (by kernel_rfl) (fun _ _ _ h => h) (Or.inl ⟨by rfl, ?_⟩) (by assumption) ?_
      rotate_left
      · intro w hSw
        (try dsimp only at hSw)
        go_simp
        try with_reducible rfl
      try simp only [Act.put, List.getElem_toArray, List.getElem_cons_zero, List.getElem_cons_succ, List.setIfInBounds_toArray, List.set_cons_zero, List.set_cons_succ]
      refine wpAnyH_take (i := 4) (oi := _) (v := ?_) rfl (by kernel_rfl) (by kernel_rfl) (by kernel_rfl) (fun _ _ _ h => h) (Or.inl ⟨by rfl, ?_⟩) (by assumption) ?_
      rotate_left
      · intro w hSw
        (try dsimp only at hSw)
        go_simp
        try with_reducible rfl
      try simp only [Act.put, List.getElem_toArray, List.getElem_cons_zero, List.getElem_cons_succ, List.setIfInBounds_toArray, List.set_cons_zero, List.set_cons_succ]
      refine wpAnyH_take (i := 8) (oi := _) (v := ?_) rfl (by kernel_rfl) (by kernel_rfl) (by kernel_rfl) (fun _ _ _ h => h) (Or.inl ⟨by rfl, ?_⟩) (by assumption) ?_
      rotate_left
      · intro w hSw
        (try dsimp only at hSw)
        go_simp
        try with_reducible rfl
      try simp only [Act.put, List.getElem_toArray, List.getElem_cons_zero, List.getElem_cons_succ, List.setIfInBounds_toArray, List.set_cons_zero, List.set_cons_succ]
      refine wpAnyH_take (i := 2) (oi := _) (v := ?_) rfl (by kernel_rfl) (by kernel_rfl) (by kernel_rfl) (fun _ _ _ h => h) (Or.inl ⟨by rfl, ?_⟩) (by assumption) ?_
      rotate_left
      · intro w hSw
        (try dsimp only at hSw)
        go_simp
        try with_reducible rfl
      try simp only [Act.put, List.getElem_toArray, List.getElem_cons_zero, List.getElem_cons_succ, List.setIfInBounds_toArray, List.set_cons_zero, List.set_cons_succ]
      refine wpAnyH_take (i := 3) (oi := _) (v := ?_) rfl (by kernel_rfl) (by kernel_rfl) (by kernel_rfl) (fun _ _ _ h => h) (Or.inl ⟨by rfl, ?_⟩) (by assumption) ?_
      rotate_left
      · intro w hSw
        (try dsimp only at hSw)
        go_simp
        try with_reducible rfl
      try simp only [Act.put, List.getElem_toArray, List.getElem_cons_zero, List.getElem_cons_succ, List.setIfInBounds_toArray, List.set_cons_zero, List.set_cons_succ]
      refine wpAnyH_ready (rs := [5]) (by kernel_rfl) (by simp) ?_
      refine AllReadyH.cons (o := _) rfl (fun K hK => ?_) AllReadyH.nil
      go_simp
      refine Calls.mono (within_ex at' 32 _ (by decide) (by decide) h8) ?_
      rintro e wa ⟨i, rfl, hi32, rfl⟩
      obtain ⟨x0, hx0⟩ : ∃ x0, p[i]? = some x0 := ⟨_, List.getElem?_eq_getElem (by have := HP32.out; omega)⟩
      obtain ⟨hx8, hca, hfa⟩ := HOC.out.cells hx0
      have hi0 : (0 : Int) ≤ (i : Int) := by omega
      have hbx : bits .xor .u8 (x0 : Int) (cc : Int) = ((x0 ^^^ cc : Nat) : Int) := bx8 hx8 hcc
      have hy8 : x0 ^^^ cc < 256 := xor8 hx8 hcc
      try go_simp
      refine hK.out _ _ (show World.cell? _ _ = _ from hcr) (fun hHeld => ?_)
      clear hK K
      try simp only [Act.put, List.getElem_toArray, List.getElem_cons_zero, List.getElem_cons_succ, List.setIfInBounds_toArray, List.set_cons_zero, List.set_cons_succ]
      refine wpAnyH_take (i := 6) (oi := _) (v := ?_) rfl (by kernel_rfl) (by kernel_rfl) (by kernel_rfl) (fun _ _ _ h => h) (Or.inl ⟨by rfl, ?_⟩) (by assumption) ?_
      rotate_left
      · intro w hSw
        (try dsimp only at hSw)
        go_simp
        try with_reducible rfl
      try simp only [Act.put, List.getElem_toArray, List.getElem_cons_zero, List.getElem_cons_succ, List.setIfInBounds_toArray, List.set_cons_zero, List.set_cons_succ]
      refine wpAnyH_ready (rs := [7]) (by kernel_rfl) (by simp) ?_
      refine AllReadyH.cons (o := _) rfl (fun K hK => ?_) AllReadyH.nil
      go_simp
      refine hK.out _ _ (show World.cell? _ _ = _ from hcr) (fun hHeld => ?_)
      clear hK K
      try simp only [Act.put, List.getElem_toArray, List.getElem_cons_zero, List.getElem_cons_succ, List.setIfInBounds_toArray, List.set_cons_zero, List.set_cons_succ]
      refine wpAnyH_take (i := 9) (oi := _) (v := ?_) rfl (by kernel_rfl) (by kernel_rfl) (by kernel_rfl) (fun _ _ _ h => h) (Or.inl ⟨by rfl, ?_⟩) (by assumption) ?_
      rotate_left
      · intro w hSw
        (try dsimp only at hSw)
        go_simp
        try with_reducible rfl
      try simp only [Act.put, List.getElem_toArray, List.getElem_cons_zero, List.getElem_cons_succ, List.setIfInBounds_toArray, List.set_cons_zero, List.set_cons_succ]
      refine wpAnyH_take (i := 10) (oi := _) (v := ?_) rfl (by kernel_rfl) (by kernel_rfl) (by kernel_rfl) (fun _ _ _ h => h) (Or.inl ⟨by rfl, ?_⟩) (by assumption) ?_
      rotate_left
      · intro w hSw
        (try dsimp only at hSw)
        go_simp
        try with_reducible rfl
      try simp only [Act.put, List.getElem_toArray, List.getElem_cons_zero, List.getElem_cons_succ, List.setIfInBounds_toArray, List.set_cons_zero, List.set_cons_succ]
      refine wpAnyH_ready (rs := [11]) (by kernel_rfl) (by simp) ?_
      refine AllReadyH.cons (o := _) rfl (fun K hK => ?_) AllReadyH.nil
      go_simp
      have hcr9 : (w5.setCell ⟨gr, i, none⟩ (.int .u8 ((x0 ^^^ cc : Nat) : Int))).cell? ⟨rb, ro + k, none⟩ = some (.slice (some ⟨gr, 0, none⟩) 32 cr) := (World.cell?_setCell_other _ _ _ _ (by intro e; have := congrArg Addr.block e; simp at this; exact hne1 (by rw [this]; rfl))).trans hcr
      refine hK.out _ _ (show World.cell? _ _ = _ from hcr9) (fun hHeld => ?_)
      clear hK K
      try simp only [Act.put, List.getElem_toArray, List.getElem_cons_zero, List.getElem_cons_succ, List.setIfInBounds_toArray, List.set_cons_zero, List.set_cons_succ]
      refine wpAnyH_done (by kernel_rfl) ?_ _
      skip
      obtain ⟨wX, hwX⟩ : ∃ wX, wX = (w5.setCell ⟨gr, i, none⟩ (.int .u8 ((x0 ^^^ cc : Nat) : Int))).drew := ⟨_, rfl⟩
      rw [← hwX]
      obtain ⟨LS, hLS⟩ : ∃ LS, LS = (renc s l).set k (p.set i (x0 ^^^ cc)) := ⟨_, rfl⟩
      have HPX : Hid (Parts wX (.slice (some ⟨rb, ro, none⟩) 4 c3) LS) := by
        show Parts _ _ _
        rw [hwX, hLS]
        have h1 := HOC.out.store i (x0 ^^^ cc) hy8
        exact ((hset.out _ _ h1.1 h1.2).up (belDr (belR _))).parts
      have BX : Below w0.heap.size w0 wX := by rw [hwX]; exact belDr (B5.setCell (by show w0.heap.size ≤ gr; exact hgr1) _)
      have hpk : (renc s l).getD k [] = p := by rw [List.getD_eq_getElem?_getD, hp.out]; rfl
      have hpi : p.getD i 0 = x0 := by rw [List.getD_eq_getElem?_getD, hx0]; rfl
      have hil : i < 32 := by omega
      have HZ : Hid (cc = 0 → ris LS = true) := by
        intro e
        rw [hLS, e, Nat.xor_zero]
        have e1 : p.set i x0 = p := by
          obtain ⟨hlt, he⟩ := List.getElem?_eq_some_iff.1 hx0
          rw [← he]; exact List.set_getElem_self hlt
        have e2 : (renc s l).set k p = renc s l := by
          obtain ⟨hlt, he⟩ := List.getElem?_eq_some_iff.1 hp.out
          rw [← he]; exact List.set_getElem_self hlt
        rw [e1, e2]
        exact ris_enc HOK.out
      have HNZ : Hid (cc ≠ 0 → ris LS = false) := by
        intro e
        have := ris_turned (k := k) (i := i) (c := cc) HOK.out hb8.out HKI.out hil hcc e
        rw [hpk, hpi] at this
        rw [hLS]; exact this
      have hdec := decode_any _ LS wX HPX.out
      have HDEC := Lib.hid hdec
      clear hdec hLS hwX hcr9 hHeld hca hfa hx0 hbx hpk hpi hcr hne1 hlt1 hset HOC B5 O5 HPX
      go_wp2_with fail
      refine Calls.mono HDEC.out ?_
      rintro e w6 ⟨s6, v6, l6, er, rfl, HI6, hs6, b6, hd⟩
      obtain ⟨av6, cv6, ev6, _⟩ := HI6.shape
      obtain ⟨n6, hn6⟩ : ∃ n, n = l6.length := ⟨_, rfl⟩
      rw [← hn6] at ev6
      subst ev6
      have HI6 := Lib.hid HI6
      have B6 := belT BX b6
      clear hn6
      by_cases hc0 : cc = 0
      · rcases hd with ⟨_, rfl, _, _⟩ | ⟨hn, _⟩
        · subst hc0
          go_wp2_with fail
          refine Calls.mono (wakes11_any _) ?_
          rintro e w7 ⟨rfl, b7⟩
          go_wp2_with fail
          go_ret
          exact ⟨rfl, belT B01 (belT B6 (belT (belA1 (belR _)) b7))⟩
        · rw [HZ.out hc0] at hn; cases hn
      · rcases hd with ⟨hn, _⟩ | ⟨_, rfl, rfl, rfl⟩
        · rw [HNZ.out hc0] at hn; cases hn
        · have hcb : ((cc : Int) == 0) = false := by rw [beq_eq_false_iff_ne]; omega
          clear hc0
          go_wp2_with fail
          refine Calls.mono (rsame_any 0 0 _ _ [] [] _ (HI6.out.up (belA1 (belR _))) (Items.nil _) ⟨by decide, by decide⟩ ⟨by decide, by decide⟩) ?_
          rw [rsame_refl]
          rintro e w7 ⟨rfl, b7⟩
          go_wp2_with fail
          refine Calls.mono (wakes11_any _) ?_
          rintro e w8 ⟨rfl, b8⟩
          go_wp2_with fail
          go_ret
          exact ⟨rfl, belT B01 (belT B6 (belT (belA1 (belR _)) (belT b7 b8)))⟩
    · rw [ris_enc hok] at hn; cases hn
end Go.Proofs.Ytgnnkglmlopldaa
