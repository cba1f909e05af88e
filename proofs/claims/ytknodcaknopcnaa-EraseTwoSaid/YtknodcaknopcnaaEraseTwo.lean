/- The walk of EraseTwo (chapter 4). True at every input. -/
import Derived.Test.YtknodcaknopcnaaEraT
import Derived.Test.YtknodcaknopcnaaSameR
import Derived.Test.YtknodcaknopcnaaSyndParts
import Derived.Test.YtknodcaknopcnaaPlayG
import Derived.Test.YtknodcaknopcnaaWk4
namespace Go.Proofs.Ytknodcaknopcnaa
open Go.RowKit
set_option linter.unusedVariables false
set_option linter.unusedSimpArgs false
set_option maxRecDepth 100000
set_option maxHeartbeats 2000000

theorem wp_append_zbytes {P : Program} {w : World} {o : Oper} {a : Act} {K : Act → World → Prop} {Q : Exit → Act → World → Prop} (s x : Operand) (t tn : TypeId)
    (ho : o.op = .call { callee := .builtin .append, args := #[s, x], argTypes := #[t, tn] })
    (i : TypeInfo) (ht : P.underlying t = some (.slice 5)) (kq kn : IntKind) (htn : P.underlying tn = some (.int kn)) (hi : P.info? 5 = some i) (hz : i.zero = some (.int .u8 0)) (hsize : i.size = 1) (hby : i.bytes = 1)
    (base : Nat) (v : Value) (l : List Nat) (hs : a.eval s = v) (hown : Own w base v l) (k : Nat) (hx : a.eval x = .int kq (k : Int)) (h0 : 0 < k)
    (h63 : l.length + k ≤ 1048576) (hbase : base ≤ w.heap.size)
    (h : ∀ v' w', Own w' base v' (l ++ List.replicate k 0) → w.grownBy w' v.ownBlock → K (a.put o.dst v') w') : o.wp P a w K Q := by
  obtain ⟨v', w', hr, h4, hg, _⟩ := run_append_own_zeros_pl (P := P) w base t tn o.type 5 i (.int .u8 0) 1 1 kq kn ht htn hi hz hsize hby rfl (by decide) zero_one v l.length (l.map u8v) hown.2 k h0 (by simp only [maxLen]; omega) (by omega) hbase
  unfold Oper.wp execOp
  simp only [ho, resolve, invoke, builtin, Sem.run_bind, Sem.run_pure, Result.andThen_ok, List.map_toArray, List.map_cons, List.map_nil, hs, hx, hr]
  refine h v' w' ⟨?_, ?_⟩ hg
  · intro y hy
    rcases List.mem_append.1 hy with h5 | h5
    · exact hown.1 y h5
    · rw [List.eq_of_mem_replicate h5]; decide
  · rw [List.length_append, List.length_replicate, List.map_append, List.map_replicate]
    rw [show (Builtin.zeroCells (Value.int .u8 0).cells k).toList = List.replicate k (u8v 0) from zeroCells_rep _ _] at h4
    exact h4
theorem tmod5 (n : Int) : (0 ≤ n → 0 ≤ Int.tmod n 5 ∧ Int.tmod n 5 ≤ n) ∧ (n ≤ 0 → Int.tmod n 5 ≤ 0 ∧ n ≤ Int.tmod n 5) := by
  rcases Int.le_total 0 n with h | h
  · have e := Int.tmod_eq_emod_of_nonneg (b := 5) h
    rw [e]; constructor <;> intro _ <;> omega
  · obtain ⟨m, rfl⟩ : ∃ m, n = -m := ⟨-n, by omega⟩
    have e := Int.tmod_eq_emod_of_nonneg (a := m) (b := 5) (by omega)
    rw [Int.neg_tmod, e]; constructor <;> intro _ <;> omega
theorem tmod5_sub (n : Int) : Int.tmod (n - Int.tmod n 5) 5 = 0 := by
  have h : n - Int.tmod n 5 = 5 * Int.tdiv n 5 := by have := Int.tmod_add_mul_tdiv n 5; omega
  rw [h, Int.mul_tmod_right]
theorem parts_len (ls : List (List Nat)) (n : Int) (h : Int.tmod n 5 ≠ 4) : ∀ p ∈ partsL ls n, p.length = 1 + (withinI n 8).toNat := by
  intro p hp
  obtain ⟨q, _, rfl⟩ := List.mem_map.1 hp
  have h1 := withinI_ge n 8
  have h2 := withinI_lt n 8 (by decide)
  unfold partL
  rw [if_neg h, List.length_take, List.length_append, List.length_replicate]
  omega
theorem OwnP.toB {w : World} {base : Nat} {v : Value} {ls : List (List Nat)} (h : OwnP w base v ls) : RowB w base v ls := by
  obtain ⟨cs, h1, h2⟩ := h
  refine ⟨cs, h1, fun i hi => ?_⟩
  obtain ⟨c, e, hc⟩ := h2 i hi
  refine ⟨c, e, hc.byt, .inr fun g hg e2 => ?_⟩
  rcases rows_apart h1 hc with e3 | e3
  · rw [e3] at hg; cases hg
  · exact e3 (by rw [hg, e2])
/-- nine bytes and zeros, so many of them -/
def ninth (l : List Nat) (n : Nat) : List Nat := (l.take 9 ++ List.replicate 9 0).take n
theorem ninth_len (l : List Nat) {n : Nat} (h : n ≤ 9) : (ninth l n).length = n := by unfold ninth; simp; omega
theorem mod_two {a m k : Nat} (ha : a < m) (hk : k + 1 < m) : ∃ b : Nat, Int.tmod ((a : Int) + 1 + (k : Int)) (m : Int) = (b : Int) ∧ b < m ∧ a ≠ b := by
  rw [Int.tmod_eq_emod_of_nonneg (by omega)]
  by_cases h : a + 1 + k < m
  · exact ⟨a + 1 + k, by rw [Int.emod_eq_of_lt (by omega) (by omega)]; omega, h, by omega⟩
  · refine ⟨a + 1 + k - m, ?_, by omega, by omega⟩
    have e : (a : Int) + 1 + (k : Int) = ((a + 1 + k - m : Nat) : Int) + (m : Int) := by omega
    rw [e, Int.add_emod_right, Int.emod_eq_of_lt (by omega) (by omega)]
attribute [local irreducible] Go.Calls Byt Own Parts RowB OwnN OwnP
theorem eraseTwo_walk (pv : Value) (ls : List (List Nat)) (n a b : Int) (pp qv : Value) (p q : List Nat) (w : World) (hp : Parts w pv ls) (hn : -9223372036854775808 ≤ n ∧ n ≤ 9223372036854775807) (ha : -9223372036854775808 ≤ a ∧ a ≤ 9223372036854775807) (hb : -9223372036854775808 ≤ b ∧ b ≤ 9223372036854775807) (hpp : Byt w pp p) (hqv : Byt w qv q) :
    Calls Try.prog 4 #[pv, .int .i64 n, .int .i64 a, .int .i64 b, pp, qv] w fun e w' => e = .returned (.bool true) ∧ Below w.heap.size w w' := by
  obtain ⟨j0, hj, hy0, hy1, hy2⟩ := info_parts uint8_info
  have HPP := Lib.hid hpp
  have HQV := Lib.hid hqv
  obtain ⟨N, hN⟩ : ∃ N, n - Int.tmod n 5 = N := ⟨_, rfl⟩
  have hN2 : -9223372036854775808 ≤ N ∧ N ≤ 9223372036854775807 := by have := tmod5 n; omega
  have hNm : Hid (Int.tmod N 5 ≠ 4) := by show _ ≠ _; rw [← hN, tmod5_sub]; decide
  have HA := Lib.hid (show i64b a from ha)
  have HB := Lib.hid (show i64b b from hb)
  clear hpp hqv ha hb
  go_enter Try.func4, Try.ntmps4
  go_wp2_with fail
  refine Calls.mono (wpParts pv ls N _ hp hN2.1 hN2.2) ?_
  rintro e w1 ⟨v1, rfl, O1, b1⟩
  obtain ⟨xs, hxs⟩ : ∃ xs, xs = partsL ls N := ⟨_, rfl⟩
  have hx7 : xs.length ≤ 7 := by rw [hxs]; exact parts_le ls N
  have hal := parts_len ls N hNm.out
  rw [← hxs] at O1 hal
  obtain ⟨sz, hsz⟩ : ∃ sz, sz = 1 + (withinI N 8).toNat := ⟨_, rfl⟩
  have hs1 : 1 ≤ sz := by omega
  have hs9 : sz ≤ 9 := by have := withinI_ge N 8; have := withinI_lt N 8 (by decide); omega
  rw [← hsz] at hal
  have HAL := Lib.hid hal
  have HX7 := Lib.hid hx7
  have PB := O1.parts.bytes
  have HPB := Lib.hid PB
  obtain ⟨m, hm⟩ : ∃ m, m = xs.length := ⟨_, rfl⟩
  have HM := Lib.hid hm
  rw [← hm] at hx7
  clear hxs hp hN hN2 hNm hal hsz hm
  by_cases h2 : 2 ≤ m
  · have OB := O1.toB
    obtain ⟨g, cap, rfl, hg1, hg2, hcap1, hcap2⟩ := OB.shape (by rw [← HM.out]; omega)
    rw [← HM.out] at OB hcap1 ⊢
    have k2 : decide ((m : Int) < 2) = false := by rw [decide_eq_false_iff_not]; omega
    have k2p : ((m : Int) < 2) = False := by rw [eq_iff_iff]; exact ⟨fun h => by omega, fun h => h.elim⟩
    have hm0 : (0 : Int) < (m : Int) := by omega
    obtain ⟨c0, p0, hc0, hf0, hp0, hy00, _⟩ := OB.get (k := 0) (by rw [← HM.out]; omega)
    have hp0l : p0.length = sz := HAL.out p0 (List.mem_of_getElem? hp0.out)
    obtain ⟨a0, k0, rfl, _, _⟩ := hy00.shapeN hp0l
    have HOB := Lib.hid OB
    have hsz9 : (sz : Int) ≤ 9 := by omega
    have hsz0 : (0 : Int) ≤ (sz : Int) := by omega
    have HS9 := Lib.hid hs9
    have HS1 := Lib.hid hs1
    have H2 := Lib.hid h2
    clear O1 OB hf0 hp0 hy00 hp0l h2 hs1
    go_wp2_with fail
    refine wp_region_held_drew (S := fun _ => True) (by kernel_rfl) trivial (fun hHeld => ?_)
    refine wpAnyH_take (i := 0) (oi := _) (v := ?_) rfl (by kernel_rfl) (by kernel_rfl) (by kernel_rfl) (fun _ _ _ h => h) (Or.inl ⟨by rfl, ?_⟩) (by assumption) ?_
    rotate_left
    · intro w hSw
      (try dsimp only at hSw)
      go_simp
      try with_reducible rfl
    try simp only [Act.put, List.getElem_toArray, List.getElem_cons_zero, List.getElem_cons_succ, List.setIfInBounds_toArray, List.set_cons_zero, List.set_cons_succ]
    refine wpAnyH_take (i := 3) (oi := _) (v := ?_) rfl (by kernel_rfl) (by kernel_rfl) (by kernel_rfl) (fun _ _ _ h => h) (Or.inl ⟨by rfl, ?_⟩) (by assumption) ?_
    rotate_left
    · intro w hSw
      (try dsimp only at hSw)
      go_simp
      try with_reducible rfl
    try simp only [Act.put, List.getElem_toArray, List.getElem_cons_zero, List.getElem_cons_succ, List.setIfInBounds_toArray, List.set_cons_zero, List.set_cons_succ]
    refine wpAnyH_take (i := 5) (oi := _) (v := ?_) rfl (by kernel_rfl) (by kernel_rfl) (by kernel_rfl) (fun _ _ _ h => h) (Or.inl ⟨by rfl, ?_⟩) (by assumption) ?_
    rotate_left
    · intro w hSw
      (try dsimp only at hSw)
      go_simp
      try with_reducible rfl
    try simp only [Act.put, List.getElem_toArray, List.getElem_cons_zero, List.getElem_cons_succ, List.setIfInBounds_toArray, List.set_cons_zero, List.set_cons_succ]
    refine wpAnyH_take (i := 8) (oi := _) (v := ?_) rfl (by kernel_rfl) (by kernel_rfl) (by kernel_rfl) (fun _ _ _ h => h) (Or.inl ⟨by rfl, ?_⟩) (by assumption) ?_
    rotate_left
    · intro w hSw
      (try dsimp only at hSw)
      go_simp
      try with_reducible rfl
    try simp only [Act.put, List.getElem_toArray, List.getElem_cons_zero, List.getElem_cons_succ, List.setIfInBounds_toArray, List.set_cons_zero, List.set_cons_succ]
    refine wpAnyH_ready (rs := [1]) (by kernel_rfl) (by simp) ?_
    refine AllReadyH.cons (o := _) rfl (fun K hK => ?_) AllReadyH.nil
    go_simp
    refine Calls.mono (cut_any _ p 9 _ (HPP.out.up (belT b1 (by iterate 8 try (first | assumption | exact belR _ | apply belDr | apply belAlloc)))) (by decide)) ?_
    rintro e w2 ⟨v2, rfl, O2, b2⟩
    have B2 : Below w1.heap.size w1 w2 := belT (by iterate 8 try (first | assumption | exact belR _ | apply belDr | apply belAlloc)) b2
    have O2' : Own w2 w1.heap.size _ _ := own_mono O2 (by first | exact Nat.le_refl _ | exact (belDr (belR _)).size | exact ((by iterate 8 try (first | assumption | exact belR _ | apply belDr | apply belAlloc)) : Below w1.heap.size w1 _).size)
    have Y2 : (p.take 9).length ≤ 9 := by simp; omega
    try go_simp
    refine hK.out _ _ trivial (fun hHeld => ?_)
    clear hK K
    try simp only [Act.put, List.getElem_toArray, List.getElem_cons_zero, List.getElem_cons_succ, List.setIfInBounds_toArray, List.set_cons_zero, List.set_cons_succ]
    refine wpAnyH_ready (rs := [2]) (by kernel_rfl) (by simp) ?_
    refine AllReadyH.cons (o := _) rfl (fun K hK => ?_) AllReadyH.nil
    rw [if_pos (by rfl)]
    refine wp_append_zbytes _ _ 22 3 rfl j0 Try.underlying22 .i64 .i64 Try.underlying3 hj hy0 hy1 hy2 w1.heap.size _ _ rfl (O2'.up (by first | exact belR _ | exact belDr (belR _))) 9 rfl (by decide) (by omega) (by first | exact B2.size | exact (belDr B2).size) ?_
    intro va2 wa2 OP0 ga2
    have Ba2 : Below w1.heap.size w1 wa2 := belG (by first | exact B2 | exact belDr B2) ga2 (fun g hg => O2'.ge g hg)
    obtain ⟨gp, kp, rfl, _, _, kp1, kp2⟩ := OP0.shape (by rw [List.length_append, List.length_replicate]; omega)
    have l2 : (p.take 9 ++ List.replicate 9 0).length = (p.take 9).length + 9 := by rw [List.length_append, List.length_replicate]
    obtain ⟨n2, hn2⟩ : ∃ n2, n2 = (p.take 9 ++ List.replicate 9 0).length := ⟨_, rfl⟩
    rw [← hn2] at OP0 kp1 ⊢
    have q2 : 9 ≤ n2 := by omega
    have HN2 := Lib.hid hn2
    clear hn2 l2
    have qk2 : (sz : Int) ≤ (kp : Int) := by omega
    have qn2 : (sz : Int) ≤ (n2 : Int) := by omega
    have qc2 : (n2 : Int) ≤ (kp : Int) := by omega
    try go_simp
    refine hK.out _ _ trivial (fun hHeld => ?_)
    clear hK K
    try simp only [Act.put, List.getElem_toArray, List.getElem_cons_zero, List.getElem_cons_succ, List.setIfInBounds_toArray, List.set_cons_zero, List.set_cons_succ]
    refine wpAnyH_take (i := 4) (oi := _) (v := ?_) rfl (by kernel_rfl) (by kernel_rfl) (by kernel_rfl) (fun _ _ _ h => h) (Or.inl ⟨by rfl, ?_⟩) (by assumption) ?_
    rotate_left
    · intro w hSw
      (try dsimp only at hSw)
      go_simp
      try with_reducible rfl
    try simp only [Act.put, List.getElem_toArray, List.getElem_cons_zero, List.getElem_cons_succ, List.setIfInBounds_toArray, List.set_cons_zero, List.set_cons_succ]
    refine wpAnyH_ready (rs := [6]) (by kernel_rfl) (by simp) ?_
    refine AllReadyH.cons (o := _) rfl (fun K hK => ?_) AllReadyH.nil
    go_simp
    refine Calls.mono (cut_any _ q 9 _ (HQV.out.up (belT b1 (by iterate 8 try (first | assumption | exact belR _ | apply belDr | apply belAlloc)))) (by decide)) ?_
    rintro e w3 ⟨v3, rfl, O3, b3⟩
    have B3 : Below w1.heap.size w1 w3 := belT (by iterate 8 try (first | assumption | exact belR _ | apply belDr | apply belAlloc)) b3
    have O3' : Own w3 w1.heap.size _ _ := own_mono O3 (by first | exact Nat.le_refl _ | exact (belDr (belR _)).size | exact ((by iterate 8 try (first | assumption | exact belR _ | apply belDr | apply belAlloc)) : Below w1.heap.size w1 _).size)
    have Y3 : (q.take 9).length ≤ 9 := by simp; omega
    try go_simp
    refine hK.out _ _ trivial (fun hHeld => ?_)
    clear hK K
    try simp only [Act.put, List.getElem_toArray, List.getElem_cons_zero, List.getElem_cons_succ, List.setIfInBounds_toArray, List.set_cons_zero, List.set_cons_succ]
    refine wpAnyH_ready (rs := [7]) (by kernel_rfl) (by simp) ?_
    refine AllReadyH.cons (o := _) rfl (fun K hK => ?_) AllReadyH.nil
    rw [if_pos (by rfl)]
    refine wp_append_zbytes _ _ 22 3 rfl j0 Try.underlying22 .i64 .i64 Try.underlying3 hj hy0 hy1 hy2 w1.heap.size _ _ rfl (O3'.up (by first | exact belR _ | exact belDr (belR _))) 9 rfl (by decide) (by omega) (by first | exact B3.size | exact (belDr B3).size) ?_
    intro va3 wa3 OQ ga3
    have Ba3 : Below w1.heap.size w1 wa3 := belG (by first | exact B3 | exact belDr B3) ga3 (fun g hg => O3'.ge g hg)
    obtain ⟨gq, kq, rfl, _, _, kq1, kq2⟩ := OQ.shape (by rw [List.length_append, List.length_replicate]; omega)
    have l3 : (q.take 9 ++ List.replicate 9 0).length = (q.take 9).length + 9 := by rw [List.length_append, List.length_replicate]
    obtain ⟨n3, hn3⟩ : ∃ n3, n3 = (q.take 9 ++ List.replicate 9 0).length := ⟨_, rfl⟩
    rw [← hn3] at OQ kq1 ⊢
    have q3 : 9 ≤ n3 := by omega
    have HN3 := Lib.hid hn3
    clear hn3 l3
    have qk3 : (sz : Int) ≤ (kq : Int) := by omega
    have qn3 : (sz : Int) ≤ (n3 : Int) := by omega
    have qc3 : (n3 : Int) ≤ (kq : Int) := by omega
    try go_simp
    refine hK.out _ _ trivial (fun hHeld => ?_)
    clear hK K
    try simp only [Act.put, List.getElem_toArray, List.getElem_cons_zero, List.getElem_cons_succ, List.setIfInBounds_toArray, List.set_cons_zero, List.set_cons_succ]
    refine wpAnyH_take (i := 9) (oi := _) (v := ?_) rfl (by kernel_rfl) (by kernel_rfl) (by kernel_rfl) (fun _ _ _ h => h) (Or.inl ⟨by rfl, ?_⟩) (by assumption) ?_
    rotate_left
    · intro w hSw
      (try dsimp only at hSw)
      go_simp
      try with_reducible rfl
    try simp only [Act.put, List.getElem_toArray, List.getElem_cons_zero, List.getElem_cons_succ, List.setIfInBounds_toArray, List.set_cons_zero, List.set_cons_succ]
    refine wpAnyH_take (i := 10) (oi := _) (v := ?_) rfl (by kernel_rfl) (by kernel_rfl) (by kernel_rfl) (fun _ _ _ h => h) (Or.inl ⟨by rfl, ?_⟩) (by assumption) ?_
    rotate_left
    · intro w hSw
      (try dsimp only at hSw)
      go_simp
      try with_reducible rfl
    try simp only [Act.put, List.getElem_toArray, List.getElem_cons_zero, List.getElem_cons_succ, List.setIfInBounds_toArray, List.set_cons_zero, List.set_cons_succ]
    refine wpAnyH_take (i := 11) (oi := _) (v := ?_) rfl (by kernel_rfl) (by kernel_rfl) (by kernel_rfl) (fun _ _ _ h => h) (Or.inl ⟨by rfl, ?_⟩) (by assumption) ?_
    rotate_left
    · intro w hSw
      (try dsimp only at hSw)
      go_simp
      try with_reducible rfl
    try simp only [Act.put, List.getElem_toArray, List.getElem_cons_zero, List.getElem_cons_succ, List.setIfInBounds_toArray, List.set_cons_zero, List.set_cons_succ]
    refine wpAnyH_done (by kernel_rfl) ?_ _
    have b17 : Below w1.heap.size w1 wa3 := Ba3
    have OP := OP0.up (belG (by first | exact b3 | exact belT (belDr (belR _)) b3) ga3 (fun g hg => O3.ge g hg))
    clear Ba2 Ba3 B2 B3 O2 O3 OP0 O2' O3' b2 b3 ga2 ga3 Y2 Y3
    go_wp2_with fail
    have P7 : Own wa3 w1.heap.size (.slice (some ⟨gp, 0, none⟩) sz kp) (ninth p sz) := OP.take (k := sz) (by omega)
    have Q7 : Own wa3 w1.heap.size (.slice (some ⟨gq, 0, none⟩) sz kq) (ninth q sz) := OQ.take (k := sz) (by omega)
    have HP7 := Lib.hid P7
    have HQ7 := Lib.hid Q7
    clear P7 Q7 OP OQ
    clear hc0
    refine Calls.mono (within_ex a (m : Int) _ (by omega) (by omega) HA.out) ?_
    rintro e w8 ⟨a1, rfl, ha1, rfl⟩
    go_wp2_with fail
    refine Calls.mono (within_ex b ((m : Int) - 1) _ (by omega) (by have := H2.out; omega) HB.out) ?_
    rintro e w8 ⟨k1, rfl, hk1, rfl⟩
    obtain ⟨b1', hb1, hbm, hab⟩ := mod_two (a := a1) (m := m) (k := k1) (by omega) (by omega)
    have hmz : ((m : Int) == 0) = false := by rw [beq_eq_false_iff_ne]; omega
    have ha10 : (0 : Int) ≤ (a1 : Int) := by omega
    have hb10 : (0 : Int) ≤ (b1' : Int) := by omega
    have hbm' : (b1' : Int) < (m : Int) := by omega
    have hw1 : IntKind.i64.wrap ((a1 : Int) + 1 + (k1 : Int)) = (a1 : Int) + 1 + (k1 : Int) := by rw [IntKind.wrap_i64]; omega
    have hw2 : IntKind.i64.wrap ((a1 : Int) + 1) = (a1 : Int) + 1 := by rw [IntKind.wrap_i64]; omega
    have HAB := Lib.hid hab
    have HBM := Lib.hid hbm
    have HAM : Hid (a1 < m) := by show _ < _; omega
    have B17 := Lib.hid b17
    have OB7 := Lib.hid (HOB.out.up b17)
    obtain ⟨cz, pz, hcz, hfz, _⟩ := OB7.out.get (k := a1) (by rw [← HM.out]; exact HAM.out)
    have q1 := Lib.hid (RowB.put OB7.out (k := a1) (c := .slice none 0 0) (p := []) (by rw [← HM.out]; exact HAM.out) (Byt.nil _) (.inl rfl))
    obtain ⟨cy, py, hcy, hfy, _⟩ := q1.out.get (k := b1') (by rw [List.length_set, ← HM.out]; exact HBM.out)
    have q2 := Lib.hid (RowB.put q1.out (k := b1') (c := .slice none 0 0) (p := []) (by rw [List.length_set, ← HM.out]; exact HBM.out) (Byt.nil _) (.inl rfl))
    have TL := Lib.hid (Y.two_law (n := sz) (a := a1) (b := b1') HAL.out (by have := HS1.out; omega) (by have := HX7.out; omega) HPB.out (by rw [← HM.out]; exact HAM.out) (by rw [← HM.out]; exact HBM.out) HAB.out (ninth_len p HS9.out) (ninth_len q HS9.out) HP7.out.byt.bytes HQ7.out.byt.bytes)
    clear hab hbm b17 hk1
    go_wp2_with fail
    have g17 : g < w1.heap.size := hg2
    have HPs := Lib.hid ((HP7.out.setAt (g := g) (o := a1) (u := .slice none 0 0) g17).setAt (g := g) (o := b1') (u := .slice none 0 0) g17)
    have HQs := Lib.hid ((HQ7.out.setAt (g := g) (o := a1) (u := .slice none 0 0) g17).setAt (g := g) (o := b1') (u := .slice none 0 0) g17)
    have BW : Below w.heap.size w ((wa3.setCell ⟨g, a1, none⟩ (.slice none 0 0)).setCell ⟨g, b1', none⟩ (.slice none 0 0)) := ((belT b1 B17.out).setCell (by show w.heap.size ≤ g; exact hg1) _).setCell (by show w.heap.size ≤ g; exact hg1) _
    refine Calls.mono (solve_any sz _ _ _ (ninth p sz) (ninth q sz) ((xs.set a1 []).set b1' []) _ HPs.out.byt HQs.out.byt q2.out.parts (by have := HS9.out; omega) (by simp; have := HX7.out; omega)) ?_
    rintro e w9 ⟨hs, b9⟩
    rcases hs with ⟨_, v', rfl, RB⟩ | ⟨h, _⟩
    case inr => rw [TL.out.1] at h; cases h
    obtain ⟨Ys, hYs⟩ : ∃ Ys, Ys = Y.solveL sz (ninth p sz) (ninth q sz) ((xs.set a1 []).set b1' []) := ⟨_, rfl⟩
    have HYS := Lib.hid hYs
    rw [← hYs] at RB
    have hYl : Ys.length = m := by rw [hYs, TL.out.2.1]; exact HM.out.symm
    have HYL := Lib.hid hYl
    obtain ⟨gy, cy', rfl, hgy1, hgy2, hcy1, hcy2⟩ := RB.shape (by rw [hYl]; have := H2.out; omega)
    rw [hYl] at RB hcy1 ⊢
    have RBH := Lib.hid RB
    have q9 := Lib.hid (q2.out.up b9)
    have b9' := b9
    have hmm : ((m : Int) != (m : Int)) = false := by simp
    have hszz : ((sz : Int) != (sz : Int)) = false := by simp
    have BW9 := belT BW b9
    have HNE : Hid (∀ r ∈ Ys, r.length = sz) := Lib.hid (by rw [hYs]; exact TL.out.2.2.1)
    clear hYs hYl RB hcz hfz hcy hfy b9 B17
    go_wp2_with fail
    go_loopw [83] (fun i X => ∃ k : Nat, k ≤ m ∧ i = .int .i64 k ∧ Below w9.heap.size w9 X) (fun i _ => m - (intOf i).toNat)
    case atStart => exact ⟨0, Nat.zero_le _, rfl, belR _⟩
    case round =>
      obtain ⟨k, hk, rfl, BX⟩ := hrel
      by_cases hlt : k < m
      · obtain ⟨cyk, pyk, hcyk, _, hpyk, hyk, _⟩ := (RBH.out.up BX).get (k := k) (by rw [HYL.out]; exact hlt)
        obtain ⟨cxk, pxk, hcxk, _, hpxk, hxk, _⟩ := (q9.out.up BX).get (k := k) (by simp only [List.length_set]; rw [← HM.out]; exact hlt)
        obtain ⟨ay, ky, rfl, _, _⟩ := hyk.shapeN (HNE.out pyk (List.mem_of_getElem? hpyk.out))
        obtain ⟨ax, kx, rfl, _, _⟩ := hxk.shape
        obtain ⟨nx, hnx⟩ : ∃ nx, nx = pxk.length := ⟨_, rfl⟩
        rw [← hnx] at hcxk hxk
        have HYK := Lib.hid hyk
        have HXK := Lib.hid hxk
        have l1 : gy < wr.heap.size := block_lt_of_cell hcyk
        have l2 : g < wr.heap.size := block_lt_of_cell hcxk
        have HK : Hid (∀ X, Below wr.heap.size wr X → X.cell? ⟨gy, k, none⟩ = some (.slice ay sz ky) ∧ X.cell? ⟨g, k, none⟩ = some (.slice ax nx kx)) := fun X hX => by
          rw [hX.cell (p := ⟨gy, k, none⟩) l1, hX.cell (p := ⟨g, k, none⟩) l2]
          exact ⟨hcyk, hcxk⟩
        have hkm : (k : Int) < (m : Int) := by omega
        have hk0 : (0 : Int) ≤ (k : Int) := by omega
        have HLT := Lib.hid hlt
        have hk1' : IntKind.i64.wrap ((k : Int) + 1) = ((k + 1 : Nat) : Int) := by have := HX7.out; have := HM.out; rw [IntKind.wrap_i64]; omega
        clear hnx hyk hxk hlt l1 l2 hcyk hcxk
        by_cases ka : k = a1
        · have hka : ((k : Int) != (a1 : Int)) = false := by rw [ka]; simp
          clear ka
          go_wp2_with fail
          refine wp_region_held_drew (S := fun X => X.cell? ⟨gy, k, none⟩ = some (.slice ay sz ky) ∧ X.cell? ⟨g, k, none⟩ = some (.slice ax nx kx)) (by kernel_rfl) (by exact HK.out _ (by iterate 8 try (first | assumption | exact belR _ | apply belDr | apply belAlloc))) (fun hHeld => ?_)
          refine wpAnyH_take (i := 0) (oi := _) (v := ?_) rfl (by kernel_rfl) (by kernel_rfl) (by kernel_rfl) (fun _ _ _ h => h) (Or.inl ⟨by rfl, ?_⟩) (by assumption) ?_
          rotate_left
          · intro w hSw
            (try dsimp only at hSw)
            go_simp
            try with_reducible rfl
          try simp only [Act.put, List.getElem_toArray, List.getElem_cons_zero, List.getElem_cons_succ, List.setIfInBounds_toArray, List.set_cons_zero, List.set_cons_succ]
          refine wpAnyH_take (i := 1) (oi := _) (v := ?_) rfl (by kernel_rfl) (by kernel_rfl) (by kernel_rfl) (fun _ _ _ h => h) (Or.inl ⟨by rfl, ?_⟩) (by assumption) ?_
          rotate_left
          · intro w hSw
            (try dsimp only at hSw)
            go_simp
            try with_reducible rfl
          try simp only [Act.put, List.getElem_toArray, List.getElem_cons_zero, List.getElem_cons_succ, List.setIfInBounds_toArray, List.set_cons_zero, List.set_cons_succ]
          refine wpAnyH_take (i := 5) (oi := _) (v := ?_) rfl (by kernel_rfl) (by kernel_rfl) (by kernel_rfl) (fun _ _ _ h => h) (Or.inl ⟨by rfl, ?_⟩) (by assumption) ?_
          rotate_left
          · intro w hSw
            (try dsimp only at hSw)
            go_simp
            try with_reducible rfl
          try simp only [Act.put, List.getElem_toArray, List.getElem_cons_zero, List.getElem_cons_succ, List.setIfInBounds_toArray, List.set_cons_zero, List.set_cons_succ]
          refine wpAnyH_take (i := 2) (oi := _) (v := ?_) rfl (by kernel_rfl) (by kernel_rfl) (by kernel_rfl) (fun _ _ _ h => h) (Or.inl ⟨by rfl, ?_⟩) (by assumption) ?_
          rotate_left
          · intro w hSw
            (try dsimp only at hSw)
            go_simp
            try with_reducible rfl
          try simp only [Act.put, List.getElem_toArray, List.getElem_cons_zero, List.getElem_cons_succ, List.setIfInBounds_toArray, List.set_cons_zero, List.set_cons_succ]
          refine wpAnyH_take (i := 3) (oi := _) (v := ?_) rfl (by kernel_rfl) (by kernel_rfl) (by kernel_rfl) (fun _ _ _ h => h) (Or.inl ⟨by rfl, ?_⟩) (by assumption) ?_
          rotate_left
          · intro w hSw
            (try dsimp only at hSw)
            go_simp
            try with_reducible rfl
          try simp only [Act.put, List.getElem_toArray, List.getElem_cons_zero, List.getElem_cons_succ, List.setIfInBounds_toArray, List.set_cons_zero, List.set_cons_succ]
          refine wpAnyH_ready (rs := [4]) (by kernel_rfl) (by simp) ?_
          refine AllReadyH.cons (o := _) rfl (fun K hK => ?_) AllReadyH.nil
          go_simp
          refine hK.out _ _ (by exact HK.out _ (by iterate 8 try (first | assumption | exact belR _ | apply belDr | apply belAlloc))) (fun hHeld => ?_)
          clear hK K
          try simp only [Act.put, List.getElem_toArray, List.getElem_cons_zero, List.getElem_cons_succ, List.setIfInBounds_toArray, List.set_cons_zero, List.set_cons_succ]
          refine wpAnyH_take (i := 6) (oi := _) (v := ?_) rfl (by kernel_rfl) (by kernel_rfl) (by kernel_rfl) (fun _ _ _ h => h) (Or.inl ⟨by rfl, ?_⟩) (by assumption) ?_
          rotate_left
          · intro w hSw
            (try dsimp only at hSw)
            go_simp
            try with_reducible rfl
          try simp only [Act.put, List.getElem_toArray, List.getElem_cons_zero, List.getElem_cons_succ, List.setIfInBounds_toArray, List.set_cons_zero, List.set_cons_succ]
          refine wpAnyH_take (i := 7) (oi := _) (v := ?_) rfl (by kernel_rfl) (by kernel_rfl) (by kernel_rfl) (fun _ _ _ h => h) (Or.inl ⟨by rfl, ?_⟩) (by assumption) ?_
          rotate_left
          · intro w hSw
            (try dsimp only at hSw)
            go_simp
            try with_reducible rfl
          try simp only [Act.put, List.getElem_toArray, List.getElem_cons_zero, List.getElem_cons_succ, List.setIfInBounds_toArray, List.set_cons_zero, List.set_cons_succ]
          refine wpAnyH_take (i := 8) (oi := _) (v := ?_) rfl (by kernel_rfl) (by kernel_rfl) (by kernel_rfl) (fun _ _ _ h => h) (Or.inl ⟨by rfl, ?_⟩) (by assumption) ?_
          rotate_left
          · intro w hSw
            (try dsimp only at hSw)
            go_simp
            try with_reducible rfl
          try simp only [Act.put, List.getElem_toArray, List.getElem_cons_zero, List.getElem_cons_succ, List.setIfInBounds_toArray, List.set_cons_zero, List.set_cons_succ]
          refine wpAnyH_take (i := 9) (oi := _) (v := ?_) rfl (by kernel_rfl) (by kernel_rfl) (by kernel_rfl) (fun _ _ _ h => h) (Or.inl ⟨by rfl, ?_⟩) (by assumption) ?_
          rotate_left
          · intro w hSw
            (try dsimp only at hSw)
            go_simp
            try with_reducible rfl
          try simp only [Act.put, List.getElem_toArray, List.getElem_cons_zero, List.getElem_cons_succ, List.setIfInBounds_toArray, List.set_cons_zero, List.set_cons_succ]
          refine wpAnyH_take (i := 10) (oi := _) (v := ?_) rfl (by kernel_rfl) (by kernel_rfl) (by kernel_rfl) (fun _ _ _ h => h) (Or.inl ⟨by rfl, ?_⟩) (by assumption) ?_
          rotate_left
          · intro w hSw
            (try dsimp only at hSw)
            go_simp
            try with_reducible rfl
          try simp only [Act.put, List.getElem_toArray, List.getElem_cons_zero, List.getElem_cons_succ, List.setIfInBounds_toArray, List.set_cons_zero, List.set_cons_succ]
          refine wpAnyH_take (i := 11) (oi := _) (v := ?_) rfl (by kernel_rfl) (by kernel_rfl) (by kernel_rfl) (fun _ _ _ h => h) (Or.inl ⟨by rfl, ?_⟩) (by assumption) ?_
          rotate_left
          · intro w hSw
            (try dsimp only at hSw)
            go_simp
            try with_reducible rfl
          try simp only [Act.put, List.getElem_toArray, List.getElem_cons_zero, List.getElem_cons_succ, List.setIfInBounds_toArray, List.set_cons_zero, List.set_cons_succ]
          refine wpAnyH_take (i := 12) (oi := _) (v := undef) rfl (by kernel_rfl) (by kernel_rfl) (by kernel_rfl) (fun _ _ _ h => h) (Or.inr ⟨by rfl, rfl⟩) (by assumption) ?_
          try simp only [Act.put, List.getElem_toArray, List.getElem_cons_zero, List.getElem_cons_succ, List.setIfInBounds_toArray, List.set_cons_zero, List.set_cons_succ]
          refine wpAnyH_take (i := 13) (oi := _) (v := undef) rfl (by kernel_rfl) (by kernel_rfl) (by kernel_rfl) (fun _ _ _ h => h) (Or.inr ⟨by rfl, rfl⟩) (by assumption) ?_
          try simp only [Act.put, List.getElem_toArray, List.getElem_cons_zero, List.getElem_cons_succ, List.setIfInBounds_toArray, List.set_cons_zero, List.set_cons_succ]
          refine wpAnyH_take (i := 14) (oi := _) (v := undef) rfl (by kernel_rfl) (by kernel_rfl) (by kernel_rfl) (fun _ _ _ h => h) (Or.inr ⟨by rfl, rfl⟩) (by assumption) ?_
          try simp only [Act.put, List.getElem_toArray, List.getElem_cons_zero, List.getElem_cons_succ, List.setIfInBounds_toArray, List.set_cons_zero, List.set_cons_succ]
          refine wpAnyH_take (i := 15) (oi := _) (v := ?_) rfl (by kernel_rfl) (by kernel_rfl) (by kernel_rfl) (fun _ _ _ h => h) (Or.inl ⟨by rfl, ?_⟩) (by assumption) ?_
          rotate_left
          · intro w hSw
            (try dsimp only at hSw)
            go_simp
            try with_reducible rfl
          try simp only [Act.put, List.getElem_toArray, List.getElem_cons_zero, List.getElem_cons_succ, List.setIfInBounds_toArray, List.set_cons_zero, List.set_cons_succ]
          refine wpAnyH_take (i := 16) (oi := _) (v := ?_) rfl (by kernel_rfl) (by kernel_rfl) (by kernel_rfl) (fun _ _ _ h => h) (Or.inl ⟨by rfl, ?_⟩) (by assumption) ?_
          rotate_left
          · intro w hSw
            (try dsimp only at hSw)
            go_simp
            try with_reducible rfl
          try simp only [Act.put, List.getElem_toArray, List.getElem_cons_zero, List.getElem_cons_succ, List.setIfInBounds_toArray, List.set_cons_zero, List.set_cons_succ]
          refine wpAnyH_take (i := 17) (oi := _) (v := undef) rfl (by kernel_rfl) (by kernel_rfl) (by kernel_rfl) (fun _ _ _ h => h) (Or.inr ⟨by rfl, rfl⟩) (by assumption) ?_
          try simp only [Act.put, List.getElem_toArray, List.getElem_cons_zero, List.getElem_cons_succ, List.setIfInBounds_toArray, List.set_cons_zero, List.set_cons_succ]
          refine wpAnyH_take (i := 18) (oi := _) (v := undef) rfl (by kernel_rfl) (by kernel_rfl) (by kernel_rfl) (fun _ _ _ h => h) (Or.inr ⟨by rfl, rfl⟩) (by assumption) ?_
          try simp only [Act.put, List.getElem_toArray, List.getElem_cons_zero, List.getElem_cons_succ, List.setIfInBounds_toArray, List.set_cons_zero, List.set_cons_succ]
          refine wpAnyH_take (i := 21) (oi := _) (v := undef) rfl (by kernel_rfl) (by kernel_rfl) (by kernel_rfl) (fun _ _ _ h => h) (Or.inr ⟨by rfl, rfl⟩) (by assumption) ?_
          try simp only [Act.put, List.getElem_toArray, List.getElem_cons_zero, List.getElem_cons_succ, List.setIfInBounds_toArray, List.set_cons_zero, List.set_cons_succ]
          refine wpAnyH_take (i := 22) (oi := _) (v := undef) rfl (by kernel_rfl) (by kernel_rfl) (by kernel_rfl) (fun _ _ _ h => h) (Or.inr ⟨by rfl, rfl⟩) (by assumption) ?_
          try simp only [Act.put, List.getElem_toArray, List.getElem_cons_zero, List.getElem_cons_succ, List.setIfInBounds_toArray, List.set_cons_zero, List.set_cons_succ]
          refine wpAnyH_take (i := 19) (oi := _) (v := undef) rfl (by kernel_rfl) (by kernel_rfl) (by kernel_rfl) (fun _ _ _ h => h) (Or.inr ⟨by rfl, rfl⟩) (by assumption) ?_
          try simp only [Act.put, List.getElem_toArray, List.getElem_cons_zero, List.getElem_cons_succ, List.setIfInBounds_toArray, List.set_cons_zero, List.set_cons_succ]
          refine wpAnyH_take (i := 23) (oi := _) (v := undef) rfl (by kernel_rfl) (by kernel_rfl) (by kernel_rfl) (fun _ _ _ h => h) (Or.inr ⟨by rfl, rfl⟩) (by assumption) ?_
          try simp only [Act.put, List.getElem_toArray, List.getElem_cons_zero, List.getElem_cons_succ, List.setIfInBounds_toArray, List.set_cons_zero, List.set_cons_succ]
          refine wpAnyH_take (i := 20) (oi := _) (v := undef) rfl (by kernel_rfl) (by kernel_rfl) (by kernel_rfl) (fun _ _ _ h => h) (Or.inr ⟨by rfl, rfl⟩) (by assumption) ?_
          try simp only [Act.put, List.getElem_toArray, List.getElem_cons_zero, List.getElem_cons_succ, List.setIfInBounds_toArray, List.set_cons_zero, List.set_cons_succ]
          refine wpAnyH_take (i := 24) (oi := _) (v := undef) rfl (by kernel_rfl) (by kernel_rfl) (by kernel_rfl) (fun _ _ _ h => h) (Or.inr ⟨by rfl, rfl⟩) (by assumption) ?_
          try simp only [Act.put, List.getElem_toArray, List.getElem_cons_zero, List.getElem_cons_succ, List.setIfInBounds_toArray, List.set_cons_zero, List.set_cons_succ]
          refine wpAnyH_take (i := 25) (oi := _) (v := undef) rfl (by kernel_rfl) (by kernel_rfl) (by kernel_rfl) (fun _ _ _ h => h) (Or.inr ⟨by rfl, rfl⟩) (by assumption) ?_
          try simp only [Act.put, List.getElem_toArray, List.getElem_cons_zero, List.getElem_cons_succ, List.setIfInBounds_toArray, List.set_cons_zero, List.set_cons_succ]
          refine wpAnyH_take (i := 26) (oi := _) (v := undef) rfl (by kernel_rfl) (by kernel_rfl) (by kernel_rfl) (fun _ _ _ h => h) (Or.inr ⟨by rfl, rfl⟩) (by assumption) ?_
          try simp only [Act.put, List.getElem_toArray, List.getElem_cons_zero, List.getElem_cons_succ, List.setIfInBounds_toArray, List.set_cons_zero, List.set_cons_succ]
          refine wpAnyH_take (i := 27) (oi := _) (v := ?_) rfl (by kernel_rfl) (by kernel_rfl) (by kernel_rfl) (fun _ _ _ h => h) (Or.inl ⟨by rfl, ?_⟩) (by assumption) ?_
          rotate_left
          · intro w hSw
            (try dsimp only at hSw)
            go_simp
            try with_reducible rfl
          try simp only [Act.put, List.getElem_toArray, List.getElem_cons_zero, List.getElem_cons_succ, List.setIfInBounds_toArray, List.set_cons_zero, List.set_cons_succ]
          refine wpAnyH_take (i := 28) (oi := _) (v := ?_) rfl (by kernel_rfl) (by kernel_rfl) (by kernel_rfl) (fun _ _ _ h => h) (Or.inl ⟨by rfl, ?_⟩) (by assumption) ?_
          rotate_left
          · intro w hSw
            (try dsimp only at hSw)
            go_simp
            try with_reducible rfl
          try simp only [Act.put, List.getElem_toArray, List.getElem_cons_zero, List.getElem_cons_succ, List.setIfInBounds_toArray, List.set_cons_zero, List.set_cons_succ]
          refine wpAnyH_done (by kernel_rfl) ?_ _
          go_wp2
          go_roundw
          case rel => exact ⟨k + 1, HLT.out, by go_num, belT BX (by iterate 8 try (first | assumption | exact belR _ | apply belDr | apply belAlloc))⟩
          case measure => have := HLT.out; simp [intOf]; omega
        · have hka : ((k : Int) != (a1 : Int)) = true := by rw [bne_iff_ne]; omega
          have HKA := Lib.hid ka
          clear ka
          by_cases kb : k = b1'
          · have hkb : ((k : Int) != (b1' : Int)) = false := by rw [kb]; simp
            clear kb
            go_wp2_with fail
            refine wp_region_held_drew (S := fun X => X.cell? ⟨gy, k, none⟩ = some (.slice ay sz ky) ∧ X.cell? ⟨g, k, none⟩ = some (.slice ax nx kx)) (by kernel_rfl) (by exact HK.out _ (by iterate 8 try (first | assumption | exact belR _ | apply belDr | apply belAlloc))) (fun hHeld => ?_)
            refine wpAnyH_take (i := 0) (oi := _) (v := ?_) rfl (by kernel_rfl) (by kernel_rfl) (by kernel_rfl) (fun _ _ _ h => h) (Or.inl ⟨by rfl, ?_⟩) (by assumption) ?_
            rotate_left
            · intro w hSw
              (try dsimp only at hSw)
              go_simp
              try with_reducible rfl
            try simp only [Act.put, List.getElem_toArray, List.getElem_cons_zero, List.getElem_cons_succ, List.setIfInBounds_toArray, List.set_cons_zero, List.set_cons_succ]
            refine wpAnyH_take (i := 1) (oi := _) (v := ?_) rfl (by kernel_rfl) (by kernel_rfl) (by kernel_rfl) (fun _ _ _ h => h) (Or.inl ⟨by rfl, ?_⟩) (by assumption) ?_
            rotate_left
            · intro w hSw
              (try dsimp only at hSw)
              go_simp
              try with_reducible rfl
            try simp only [Act.put, List.getElem_toArray, List.getElem_cons_zero, List.getElem_cons_succ, List.setIfInBounds_toArray, List.set_cons_zero, List.set_cons_succ]
            refine wpAnyH_take (i := 5) (oi := _) (v := ?_) rfl (by kernel_rfl) (by kernel_rfl) (by kernel_rfl) (fun _ _ _ h => h) (Or.inl ⟨by rfl, ?_⟩) (by assumption) ?_
            rotate_left
            · intro w hSw
              (try dsimp only at hSw)
              go_simp
              try with_reducible rfl
            try simp only [Act.put, List.getElem_toArray, List.getElem_cons_zero, List.getElem_cons_succ, List.setIfInBounds_toArray, List.set_cons_zero, List.set_cons_succ]
            refine wpAnyH_take (i := 2) (oi := _) (v := ?_) rfl (by kernel_rfl) (by kernel_rfl) (by kernel_rfl) (fun _ _ _ h => h) (Or.inl ⟨by rfl, ?_⟩) (by assumption) ?_
            rotate_left
            · intro w hSw
              (try dsimp only at hSw)
              go_simp
              try with_reducible rfl
            try simp only [Act.put, List.getElem_toArray, List.getElem_cons_zero, List.getElem_cons_succ, List.setIfInBounds_toArray, List.set_cons_zero, List.set_cons_succ]
            refine wpAnyH_take (i := 3) (oi := _) (v := ?_) rfl (by kernel_rfl) (by kernel_rfl) (by kernel_rfl) (fun _ _ _ h => h) (Or.inl ⟨by rfl, ?_⟩) (by assumption) ?_
            rotate_left
            · intro w hSw
              (try dsimp only at hSw)
              go_simp
              try with_reducible rfl
            try simp only [Act.put, List.getElem_toArray, List.getElem_cons_zero, List.getElem_cons_succ, List.setIfInBounds_toArray, List.set_cons_zero, List.set_cons_succ]
            refine wpAnyH_ready (rs := [4]) (by kernel_rfl) (by simp) ?_
            refine AllReadyH.cons (o := _) rfl (fun K hK => ?_) AllReadyH.nil
            go_simp
            refine hK.out _ _ (by exact HK.out _ (by iterate 8 try (first | assumption | exact belR _ | apply belDr | apply belAlloc))) (fun hHeld => ?_)
            clear hK K
            try simp only [Act.put, List.getElem_toArray, List.getElem_cons_zero, List.getElem_cons_succ, List.setIfInBounds_toArray, List.set_cons_zero, List.set_cons_succ]
            refine wpAnyH_take (i := 6) (oi := _) (v := ?_) rfl (by kernel_rfl) (by kernel_rfl) (by kernel_rfl) (fun _ _ _ h => h) (Or.inl ⟨by rfl, ?_⟩) (by assumption) ?_
            rotate_left
            · intro w hSw
              (try dsimp only at hSw)
              go_simp
              try with_reducible rfl
            try simp only [Act.put, List.getElem_toArray, List.getElem_cons_zero, List.getElem_cons_succ, List.setIfInBounds_toArray, List.set_cons_zero, List.set_cons_succ]
            refine wpAnyH_take (i := 7) (oi := _) (v := ?_) rfl (by kernel_rfl) (by kernel_rfl) (by kernel_rfl) (fun _ _ _ h => h) (Or.inl ⟨by rfl, ?_⟩) (by assumption) ?_
            rotate_left
            · intro w hSw
              (try dsimp only at hSw)
              go_simp
              try with_reducible rfl
            try simp only [Act.put, List.getElem_toArray, List.getElem_cons_zero, List.getElem_cons_succ, List.setIfInBounds_toArray, List.set_cons_zero, List.set_cons_succ]
            refine wpAnyH_take (i := 8) (oi := _) (v := ?_) rfl (by kernel_rfl) (by kernel_rfl) (by kernel_rfl) (fun _ _ _ h => h) (Or.inl ⟨by rfl, ?_⟩) (by assumption) ?_
            rotate_left
            · intro w hSw
              (try dsimp only at hSw)
              go_simp
              try with_reducible rfl
            try simp only [Act.put, List.getElem_toArray, List.getElem_cons_zero, List.getElem_cons_succ, List.setIfInBounds_toArray, List.set_cons_zero, List.set_cons_succ]
            refine wpAnyH_take (i := 9) (oi := _) (v := ?_) rfl (by kernel_rfl) (by kernel_rfl) (by kernel_rfl) (fun _ _ _ h => h) (Or.inl ⟨by rfl, ?_⟩) (by assumption) ?_
            rotate_left
            · intro w hSw
              (try dsimp only at hSw)
              go_simp
              try with_reducible rfl
            try simp only [Act.put, List.getElem_toArray, List.getElem_cons_zero, List.getElem_cons_succ, List.setIfInBounds_toArray, List.set_cons_zero, List.set_cons_succ]
            refine wpAnyH_take (i := 10) (oi := _) (v := ?_) rfl (by kernel_rfl) (by kernel_rfl) (by kernel_rfl) (fun _ _ _ h => h) (Or.inl ⟨by rfl, ?_⟩) (by assumption) ?_
            rotate_left
            · intro w hSw
              (try dsimp only at hSw)
              go_simp
              try with_reducible rfl
            try simp only [Act.put, List.getElem_toArray, List.getElem_cons_zero, List.getElem_cons_succ, List.setIfInBounds_toArray, List.set_cons_zero, List.set_cons_succ]
            refine wpAnyH_take (i := 11) (oi := _) (v := ?_) rfl (by kernel_rfl) (by kernel_rfl) (by kernel_rfl) (fun _ _ _ h => h) (Or.inl ⟨by rfl, ?_⟩) (by assumption) ?_
            rotate_left
            · intro w hSw
              (try dsimp only at hSw)
              go_simp
              try with_reducible rfl
            try simp only [Act.put, List.getElem_toArray, List.getElem_cons_zero, List.getElem_cons_succ, List.setIfInBounds_toArray, List.set_cons_zero, List.set_cons_succ]
            refine wpAnyH_take (i := 12) (oi := _) (v := ?_) rfl (by kernel_rfl) (by kernel_rfl) (by kernel_rfl) (fun _ _ _ h => h) (Or.inl ⟨by rfl, ?_⟩) (by assumption) ?_
            rotate_left
            · intro w hSw
              (try dsimp only at hSw)
              go_simp
              try with_reducible rfl
            try simp only [Act.put, List.getElem_toArray, List.getElem_cons_zero, List.getElem_cons_succ, List.setIfInBounds_toArray, List.set_cons_zero, List.set_cons_succ]
            refine wpAnyH_take (i := 13) (oi := _) (v := ?_) rfl (by kernel_rfl) (by kernel_rfl) (by kernel_rfl) (fun _ _ _ h => h) (Or.inl ⟨by rfl, ?_⟩) (by assumption) ?_
            rotate_left
            · intro w hSw
              (try dsimp only at hSw)
              go_simp
              try with_reducible rfl
            try simp only [Act.put, List.getElem_toArray, List.getElem_cons_zero, List.getElem_cons_succ, List.setIfInBounds_toArray, List.set_cons_zero, List.set_cons_succ]
            refine wpAnyH_take (i := 14) (oi := _) (v := ?_) rfl (by kernel_rfl) (by kernel_rfl) (by kernel_rfl) (fun _ _ _ h => h) (Or.inl ⟨by rfl, ?_⟩) (by assumption) ?_
            rotate_left
            · intro w hSw
              (try dsimp only at hSw)
              go_simp
              try with_reducible rfl
            try simp only [Act.put, List.getElem_toArray, List.getElem_cons_zero, List.getElem_cons_succ, List.setIfInBounds_toArray, List.set_cons_zero, List.set_cons_succ]
            refine wpAnyH_take (i := 15) (oi := _) (v := ?_) rfl (by kernel_rfl) (by kernel_rfl) (by kernel_rfl) (fun _ _ _ h => h) (Or.inl ⟨by rfl, ?_⟩) (by assumption) ?_
            rotate_left
            · intro w hSw
              (try dsimp only at hSw)
              go_simp
              try with_reducible rfl
            try simp only [Act.put, List.getElem_toArray, List.getElem_cons_zero, List.getElem_cons_succ, List.setIfInBounds_toArray, List.set_cons_zero, List.set_cons_succ]
            refine wpAnyH_take (i := 16) (oi := _) (v := ?_) rfl (by kernel_rfl) (by kernel_rfl) (by kernel_rfl) (fun _ _ _ h => h) (Or.inl ⟨by rfl, ?_⟩) (by assumption) ?_
            rotate_left
            · intro w hSw
              (try dsimp only at hSw)
              go_simp
              try with_reducible rfl
            try simp only [Act.put, List.getElem_toArray, List.getElem_cons_zero, List.getElem_cons_succ, List.setIfInBounds_toArray, List.set_cons_zero, List.set_cons_succ]
            refine wpAnyH_take (i := 17) (oi := _) (v := undef) rfl (by kernel_rfl) (by kernel_rfl) (by kernel_rfl) (fun _ _ _ h => h) (Or.inr ⟨by rfl, rfl⟩) (by assumption) ?_
            try simp only [Act.put, List.getElem_toArray, List.getElem_cons_zero, List.getElem_cons_succ, List.setIfInBounds_toArray, List.set_cons_zero, List.set_cons_succ]
            refine wpAnyH_take (i := 18) (oi := _) (v := undef) rfl (by kernel_rfl) (by kernel_rfl) (by kernel_rfl) (fun _ _ _ h => h) (Or.inr ⟨by rfl, rfl⟩) (by assumption) ?_
            try simp only [Act.put, List.getElem_toArray, List.getElem_cons_zero, List.getElem_cons_succ, List.setIfInBounds_toArray, List.set_cons_zero, List.set_cons_succ]
            refine wpAnyH_take (i := 21) (oi := _) (v := undef) rfl (by kernel_rfl) (by kernel_rfl) (by kernel_rfl) (fun _ _ _ h => h) (Or.inr ⟨by rfl, rfl⟩) (by assumption) ?_
            try simp only [Act.put, List.getElem_toArray, List.getElem_cons_zero, List.getElem_cons_succ, List.setIfInBounds_toArray, List.set_cons_zero, List.set_cons_succ]
            refine wpAnyH_take (i := 22) (oi := _) (v := undef) rfl (by kernel_rfl) (by kernel_rfl) (by kernel_rfl) (fun _ _ _ h => h) (Or.inr ⟨by rfl, rfl⟩) (by assumption) ?_
            try simp only [Act.put, List.getElem_toArray, List.getElem_cons_zero, List.getElem_cons_succ, List.setIfInBounds_toArray, List.set_cons_zero, List.set_cons_succ]
            refine wpAnyH_take (i := 19) (oi := _) (v := undef) rfl (by kernel_rfl) (by kernel_rfl) (by kernel_rfl) (fun _ _ _ h => h) (Or.inr ⟨by rfl, rfl⟩) (by assumption) ?_
            try simp only [Act.put, List.getElem_toArray, List.getElem_cons_zero, List.getElem_cons_succ, List.setIfInBounds_toArray, List.set_cons_zero, List.set_cons_succ]
            refine wpAnyH_take (i := 23) (oi := _) (v := undef) rfl (by kernel_rfl) (by kernel_rfl) (by kernel_rfl) (fun _ _ _ h => h) (Or.inr ⟨by rfl, rfl⟩) (by assumption) ?_
            try simp only [Act.put, List.getElem_toArray, List.getElem_cons_zero, List.getElem_cons_succ, List.setIfInBounds_toArray, List.set_cons_zero, List.set_cons_succ]
            refine wpAnyH_take (i := 20) (oi := _) (v := undef) rfl (by kernel_rfl) (by kernel_rfl) (by kernel_rfl) (fun _ _ _ h => h) (Or.inr ⟨by rfl, rfl⟩) (by assumption) ?_
            try simp only [Act.put, List.getElem_toArray, List.getElem_cons_zero, List.getElem_cons_succ, List.setIfInBounds_toArray, List.set_cons_zero, List.set_cons_succ]
            refine wpAnyH_take (i := 24) (oi := _) (v := undef) rfl (by kernel_rfl) (by kernel_rfl) (by kernel_rfl) (fun _ _ _ h => h) (Or.inr ⟨by rfl, rfl⟩) (by assumption) ?_
            try simp only [Act.put, List.getElem_toArray, List.getElem_cons_zero, List.getElem_cons_succ, List.setIfInBounds_toArray, List.set_cons_zero, List.set_cons_succ]
            refine wpAnyH_take (i := 25) (oi := _) (v := undef) rfl (by kernel_rfl) (by kernel_rfl) (by kernel_rfl) (fun _ _ _ h => h) (Or.inr ⟨by rfl, rfl⟩) (by assumption) ?_
            try simp only [Act.put, List.getElem_toArray, List.getElem_cons_zero, List.getElem_cons_succ, List.setIfInBounds_toArray, List.set_cons_zero, List.set_cons_succ]
            refine wpAnyH_take (i := 26) (oi := _) (v := undef) rfl (by kernel_rfl) (by kernel_rfl) (by kernel_rfl) (fun _ _ _ h => h) (Or.inr ⟨by rfl, rfl⟩) (by assumption) ?_
            try simp only [Act.put, List.getElem_toArray, List.getElem_cons_zero, List.getElem_cons_succ, List.setIfInBounds_toArray, List.set_cons_zero, List.set_cons_succ]
            refine wpAnyH_take (i := 27) (oi := _) (v := ?_) rfl (by kernel_rfl) (by kernel_rfl) (by kernel_rfl) (fun _ _ _ h => h) (Or.inl ⟨by rfl, ?_⟩) (by assumption) ?_
            rotate_left
            · intro w hSw
              (try dsimp only at hSw)
              go_simp
              try with_reducible rfl
            try simp only [Act.put, List.getElem_toArray, List.getElem_cons_zero, List.getElem_cons_succ, List.setIfInBounds_toArray, List.set_cons_zero, List.set_cons_succ]
            refine wpAnyH_take (i := 28) (oi := _) (v := ?_) rfl (by kernel_rfl) (by kernel_rfl) (by kernel_rfl) (fun _ _ _ h => h) (Or.inl ⟨by rfl, ?_⟩) (by assumption) ?_
            rotate_left
            · intro w hSw
              (try dsimp only at hSw)
              go_simp
              try with_reducible rfl
            try simp only [Act.put, List.getElem_toArray, List.getElem_cons_zero, List.getElem_cons_succ, List.setIfInBounds_toArray, List.set_cons_zero, List.set_cons_succ]
            refine wpAnyH_done (by kernel_rfl) ?_ _
            go_wp2
            go_roundw
            case rel => exact ⟨k + 1, HLT.out, by go_num, belT BX (by iterate 8 try (first | assumption | exact belR _ | apply belDr | apply belAlloc))⟩
            case measure => have := HLT.out; simp [intOf]; omega
          · have hkb : ((k : Int) != (b1' : Int)) = true := by rw [bne_iff_ne]; omega
            have HKB := Lib.hid kb
            clear kb
            have hpx : pyk = pxk := by
              have h1 := TL.out.2.2.2.1 k (by rw [← HM.out]; exact HLT.out) HKA.out HKB.out
              rw [← HYS.out] at h1
              have e1 : Ys.getD k [] = pyk := by rw [List.getD, hpyk.out]; rfl
              have e2 := hpxk.out
              rw [List.getElem?_set_ne (fun e => HKB.out e.symm), List.getElem?_set_ne (fun e => HKA.out e.symm)] at e2
              have e3 : xs.getD k [] = pxk := by rw [List.getD, e2]; rfl
              rw [← e1, h1, e3]
            have HPX := Lib.hid (decide_eq_true hpx)
            clear hpx
            go_wp2_with fail
            refine wp_region_held_drew (S := fun X => X.cell? ⟨gy, k, none⟩ = some (.slice ay sz ky) ∧ X.cell? ⟨g, k, none⟩ = some (.slice ax nx kx)) (by kernel_rfl) (by exact HK.out _ (by iterate 8 try (first | assumption | exact belR _ | apply belDr | apply belAlloc))) (fun hHeld => ?_)
            refine wpAnyH_take (i := 0) (oi := _) (v := ?_) rfl (by kernel_rfl) (by kernel_rfl) (by kernel_rfl) (fun _ _ _ h => h) (Or.inl ⟨by rfl, ?_⟩) (by assumption) ?_
            rotate_left
            · intro w hSw
              (try dsimp only at hSw)
              go_simp
              try with_reducible rfl
            try simp only [Act.put, List.getElem_toArray, List.getElem_cons_zero, List.getElem_cons_succ, List.setIfInBounds_toArray, List.set_cons_zero, List.set_cons_succ]
            refine wpAnyH_take (i := 1) (oi := _) (v := ?_) rfl (by kernel_rfl) (by kernel_rfl) (by kernel_rfl) (fun _ _ _ h => h) (Or.inl ⟨by rfl, ?_⟩) (by assumption) ?_
            rotate_left
            · intro w hSw
              (try dsimp only at hSw)
              go_simp
              try with_reducible rfl
            try simp only [Act.put, List.getElem_toArray, List.getElem_cons_zero, List.getElem_cons_succ, List.setIfInBounds_toArray, List.set_cons_zero, List.set_cons_succ]
            refine wpAnyH_take (i := 5) (oi := _) (v := ?_) rfl (by kernel_rfl) (by kernel_rfl) (by kernel_rfl) (fun _ _ _ h => h) (Or.inl ⟨by rfl, ?_⟩) (by assumption) ?_
            rotate_left
            · intro w hSw
              (try dsimp only at hSw)
              go_simp
              try with_reducible rfl
            try simp only [Act.put, List.getElem_toArray, List.getElem_cons_zero, List.getElem_cons_succ, List.setIfInBounds_toArray, List.set_cons_zero, List.set_cons_succ]
            refine wpAnyH_take (i := 2) (oi := _) (v := ?_) rfl (by kernel_rfl) (by kernel_rfl) (by kernel_rfl) (fun _ _ _ h => h) (Or.inl ⟨by rfl, ?_⟩) (by assumption) ?_
            rotate_left
            · intro w hSw
              (try dsimp only at hSw)
              go_simp
              try with_reducible rfl
            try simp only [Act.put, List.getElem_toArray, List.getElem_cons_zero, List.getElem_cons_succ, List.setIfInBounds_toArray, List.set_cons_zero, List.set_cons_succ]
            refine wpAnyH_take (i := 3) (oi := _) (v := ?_) rfl (by kernel_rfl) (by kernel_rfl) (by kernel_rfl) (fun _ _ _ h => h) (Or.inl ⟨by rfl, ?_⟩) (by assumption) ?_
            rotate_left
            · intro w hSw
              (try dsimp only at hSw)
              go_simp
              try with_reducible rfl
            try simp only [Act.put, List.getElem_toArray, List.getElem_cons_zero, List.getElem_cons_succ, List.setIfInBounds_toArray, List.set_cons_zero, List.set_cons_succ]
            refine wpAnyH_ready (rs := [4]) (by kernel_rfl) (by simp) ?_
            refine AllReadyH.cons (o := _) rfl (fun K hK => ?_) AllReadyH.nil
            go_simp
            refine hK.out _ _ (by exact HK.out _ (by iterate 8 try (first | assumption | exact belR _ | apply belDr | apply belAlloc))) (fun hHeld => ?_)
            clear hK K
            try simp only [Act.put, List.getElem_toArray, List.getElem_cons_zero, List.getElem_cons_succ, List.setIfInBounds_toArray, List.set_cons_zero, List.set_cons_succ]
            refine wpAnyH_take (i := 6) (oi := _) (v := ?_) rfl (by kernel_rfl) (by kernel_rfl) (by kernel_rfl) (fun _ _ _ h => h) (Or.inl ⟨by rfl, ?_⟩) (by assumption) ?_
            rotate_left
            · intro w hSw
              (try dsimp only at hSw)
              go_simp
              try with_reducible rfl
            try simp only [Act.put, List.getElem_toArray, List.getElem_cons_zero, List.getElem_cons_succ, List.setIfInBounds_toArray, List.set_cons_zero, List.set_cons_succ]
            refine wpAnyH_take (i := 7) (oi := _) (v := ?_) rfl (by kernel_rfl) (by kernel_rfl) (by kernel_rfl) (fun _ _ _ h => h) (Or.inl ⟨by rfl, ?_⟩) (by assumption) ?_
            rotate_left
            · intro w hSw
              (try dsimp only at hSw)
              go_simp
              try with_reducible rfl
            try simp only [Act.put, List.getElem_toArray, List.getElem_cons_zero, List.getElem_cons_succ, List.setIfInBounds_toArray, List.set_cons_zero, List.set_cons_succ]
            refine wpAnyH_take (i := 8) (oi := _) (v := ?_) rfl (by kernel_rfl) (by kernel_rfl) (by kernel_rfl) (fun _ _ _ h => h) (Or.inl ⟨by rfl, ?_⟩) (by assumption) ?_
            rotate_left
            · intro w hSw
              (try dsimp only at hSw)
              go_simp
              try with_reducible rfl
            try simp only [Act.put, List.getElem_toArray, List.getElem_cons_zero, List.getElem_cons_succ, List.setIfInBounds_toArray, List.set_cons_zero, List.set_cons_succ]
            refine wpAnyH_take (i := 9) (oi := _) (v := ?_) rfl (by kernel_rfl) (by kernel_rfl) (by kernel_rfl) (fun _ _ _ h => h) (Or.inl ⟨by rfl, ?_⟩) (by assumption) ?_
            rotate_left
            · intro w hSw
              (try dsimp only at hSw)
              go_simp
              try with_reducible rfl
            try simp only [Act.put, List.getElem_toArray, List.getElem_cons_zero, List.getElem_cons_succ, List.setIfInBounds_toArray, List.set_cons_zero, List.set_cons_succ]
            refine wpAnyH_take (i := 10) (oi := _) (v := ?_) rfl (by kernel_rfl) (by kernel_rfl) (by kernel_rfl) (fun _ _ _ h => h) (Or.inl ⟨by rfl, ?_⟩) (by assumption) ?_
            rotate_left
            · intro w hSw
              (try dsimp only at hSw)
              go_simp
              try with_reducible rfl
            try simp only [Act.put, List.getElem_toArray, List.getElem_cons_zero, List.getElem_cons_succ, List.setIfInBounds_toArray, List.set_cons_zero, List.set_cons_succ]
            refine wpAnyH_take (i := 11) (oi := _) (v := ?_) rfl (by kernel_rfl) (by kernel_rfl) (by kernel_rfl) (fun _ _ _ h => h) (Or.inl ⟨by rfl, ?_⟩) (by assumption) ?_
            rotate_left
            · intro w hSw
              (try dsimp only at hSw)
              go_simp
              try with_reducible rfl
            try simp only [Act.put, List.getElem_toArray, List.getElem_cons_zero, List.getElem_cons_succ, List.setIfInBounds_toArray, List.set_cons_zero, List.set_cons_succ]
            refine wpAnyH_take (i := 12) (oi := _) (v := ?_) rfl (by kernel_rfl) (by kernel_rfl) (by kernel_rfl) (fun _ _ _ h => h) (Or.inl ⟨by rfl, ?_⟩) (by assumption) ?_
            rotate_left
            · intro w hSw
              (try dsimp only at hSw)
              go_simp
              try with_reducible rfl
            try simp only [Act.put, List.getElem_toArray, List.getElem_cons_zero, List.getElem_cons_succ, List.setIfInBounds_toArray, List.set_cons_zero, List.set_cons_succ]
            refine wpAnyH_take (i := 13) (oi := _) (v := ?_) rfl (by kernel_rfl) (by kernel_rfl) (by kernel_rfl) (fun _ _ _ h => h) (Or.inl ⟨by rfl, ?_⟩) (by assumption) ?_
            rotate_left
            · intro w hSw
              (try dsimp only at hSw)
              go_simp
              try with_reducible rfl
            try simp only [Act.put, List.getElem_toArray, List.getElem_cons_zero, List.getElem_cons_succ, List.setIfInBounds_toArray, List.set_cons_zero, List.set_cons_succ]
            refine wpAnyH_take (i := 14) (oi := _) (v := ?_) rfl (by kernel_rfl) (by kernel_rfl) (by kernel_rfl) (fun _ _ _ h => h) (Or.inl ⟨by rfl, ?_⟩) (by assumption) ?_
            rotate_left
            · intro w hSw
              (try dsimp only at hSw)
              go_simp
              try with_reducible rfl
            try simp only [Act.put, List.getElem_toArray, List.getElem_cons_zero, List.getElem_cons_succ, List.setIfInBounds_toArray, List.set_cons_zero, List.set_cons_succ]
            refine wpAnyH_take (i := 15) (oi := _) (v := ?_) rfl (by kernel_rfl) (by kernel_rfl) (by kernel_rfl) (fun _ _ _ h => h) (Or.inl ⟨by rfl, ?_⟩) (by assumption) ?_
            rotate_left
            · intro w hSw
              (try dsimp only at hSw)
              go_simp
              try with_reducible rfl
            try simp only [Act.put, List.getElem_toArray, List.getElem_cons_zero, List.getElem_cons_succ, List.setIfInBounds_toArray, List.set_cons_zero, List.set_cons_succ]
            refine wpAnyH_take (i := 16) (oi := _) (v := ?_) rfl (by kernel_rfl) (by kernel_rfl) (by kernel_rfl) (fun _ _ _ h => h) (Or.inl ⟨by rfl, ?_⟩) (by assumption) ?_
            rotate_left
            · intro w hSw
              (try dsimp only at hSw)
              go_simp
              try with_reducible rfl
            try simp only [Act.put, List.getElem_toArray, List.getElem_cons_zero, List.getElem_cons_succ, List.setIfInBounds_toArray, List.set_cons_zero, List.set_cons_succ]
            refine wpAnyH_take (i := 17) (oi := _) (v := ?_) rfl (by kernel_rfl) (by kernel_rfl) (by kernel_rfl) (fun _ _ _ h => h) (Or.inl ⟨by rfl, ?_⟩) (by assumption) ?_
            rotate_left
            · intro w hSw
              (try dsimp only at hSw)
              go_simp
              try with_reducible rfl
            try simp only [Act.put, List.getElem_toArray, List.getElem_cons_zero, List.getElem_cons_succ, List.setIfInBounds_toArray, List.set_cons_zero, List.set_cons_succ]
            refine wpAnyH_take (i := 18) (oi := _) (v := ?_) rfl (by kernel_rfl) (by kernel_rfl) (by kernel_rfl) (fun _ _ _ h => h) (Or.inl ⟨by rfl, ?_⟩) (by assumption) ?_
            rotate_left
            · intro w hSw
              (try dsimp only at hSw)
              go_simp
              try with_reducible rfl
            try simp only [Act.put, List.getElem_toArray, List.getElem_cons_zero, List.getElem_cons_succ, List.setIfInBounds_toArray, List.set_cons_zero, List.set_cons_succ]
            refine wpAnyH_take (i := 21) (oi := _) (v := ?_) rfl (by kernel_rfl) (by kernel_rfl) (by kernel_rfl) (fun _ _ _ h => h) (Or.inl ⟨by rfl, ?_⟩) (by assumption) ?_
            rotate_left
            · intro w hSw
              (try dsimp only at hSw)
              go_simp
              try with_reducible rfl
            try simp only [Act.put, List.getElem_toArray, List.getElem_cons_zero, List.getElem_cons_succ, List.setIfInBounds_toArray, List.set_cons_zero, List.set_cons_succ]
            refine wpAnyH_take (i := 22) (oi := _) (v := ?_) rfl (by kernel_rfl) (by kernel_rfl) (by kernel_rfl) (fun _ _ _ h => h) (Or.inl ⟨by rfl, ?_⟩) (by assumption) ?_
            rotate_left
            · intro w hSw
              (try dsimp only at hSw)
              go_simp
              try with_reducible rfl
            try simp only [Act.put, List.getElem_toArray, List.getElem_cons_zero, List.getElem_cons_succ, List.setIfInBounds_toArray, List.set_cons_zero, List.set_cons_succ]
            refine wpAnyH_take (i := 19) (oi := _) (v := ?_) rfl (by kernel_rfl) (by kernel_rfl) (by kernel_rfl) (fun _ _ _ h => h) (Or.inl ⟨by rfl, ?_⟩) (by assumption) ?_
            rotate_left
            · intro w hSw
              (try dsimp only at hSw)
              go_simp
              try with_reducible rfl
            try simp only [Act.put, List.getElem_toArray, List.getElem_cons_zero, List.getElem_cons_succ, List.setIfInBounds_toArray, List.set_cons_zero, List.set_cons_succ]
            refine wpAnyH_take (i := 23) (oi := _) (v := ?_) rfl (by kernel_rfl) (by kernel_rfl) (by kernel_rfl) (fun _ _ _ h => h) (Or.inl ⟨by rfl, ?_⟩) (by assumption) ?_
            rotate_left
            · intro w hSw
              (try dsimp only at hSw)
              go_simp
              try with_reducible rfl
            try simp only [Act.put, List.getElem_toArray, List.getElem_cons_zero, List.getElem_cons_succ, List.setIfInBounds_toArray, List.set_cons_zero, List.set_cons_succ]
            refine wpAnyH_take (i := 20) (oi := _) (v := ?_) rfl (by kernel_rfl) (by kernel_rfl) (by kernel_rfl) (fun _ _ _ h => h) (Or.inl ⟨by rfl, ?_⟩) (by assumption) ?_
            rotate_left
            · intro w hSw
              (try dsimp only at hSw)
              go_simp
              try with_reducible rfl
            try simp only [Act.put, List.getElem_toArray, List.getElem_cons_zero, List.getElem_cons_succ, List.setIfInBounds_toArray, List.set_cons_zero, List.set_cons_succ]
            refine wpAnyH_take (i := 24) (oi := _) (v := ?_) rfl (by kernel_rfl) (by kernel_rfl) (by kernel_rfl) (fun _ _ _ h => h) (Or.inl ⟨by rfl, ?_⟩) (by assumption) ?_
            rotate_left
            · intro w hSw
              (try dsimp only at hSw)
              go_simp
              try with_reducible rfl
            try simp only [Act.put, List.getElem_toArray, List.getElem_cons_zero, List.getElem_cons_succ, List.setIfInBounds_toArray, List.set_cons_zero, List.set_cons_succ]
            refine wpAnyH_ready (rs := [25]) (by kernel_rfl) (by simp) ?_
            refine AllReadyH.cons (o := _) rfl (fun K hK => ?_) AllReadyH.nil
            go_simp
            refine Calls.mono (same_any _ _ pyk pxk _ (HYK.out.up (by iterate 8 try (first | assumption | exact belR _ | apply belDr | apply belAlloc))) (HXK.out.up (by iterate 8 try (first | assumption | exact belR _ | apply belDr | apply belAlloc)))) ?_
            rw [HPX.out]
            rintro e w2 ⟨rfl, d2⟩
            have B2 : Below wr.heap.size wr w2 := belT (by iterate 8 try (first | assumption | exact belR _ | apply belDr | apply belAlloc)) (d2.below _)
            try go_simp
            refine hK.out _ _ (by exact HK.out _ (by iterate 8 try (first | assumption | exact belR _ | apply belDr | apply belAlloc))) (fun hHeld => ?_)
            clear hK K
            try simp only [Act.put, List.getElem_toArray, List.getElem_cons_zero, List.getElem_cons_succ, List.setIfInBounds_toArray, List.set_cons_zero, List.set_cons_succ]
            refine wpAnyH_take (i := 26) (oi := _) (v := ?_) rfl (by kernel_rfl) (by kernel_rfl) (by kernel_rfl) (fun _ _ _ h => h) (Or.inl ⟨by rfl, ?_⟩) (by assumption) ?_
            rotate_left
            · intro w hSw
              (try dsimp only at hSw)
              go_simp
              try with_reducible rfl
            try simp only [Act.put, List.getElem_toArray, List.getElem_cons_zero, List.getElem_cons_succ, List.setIfInBounds_toArray, List.set_cons_zero, List.set_cons_succ]
            refine wpAnyH_take (i := 27) (oi := _) (v := ?_) rfl (by kernel_rfl) (by kernel_rfl) (by kernel_rfl) (fun _ _ _ h => h) (Or.inl ⟨by rfl, ?_⟩) (by assumption) ?_
            rotate_left
            · intro w hSw
              (try dsimp only at hSw)
              go_simp
              try with_reducible rfl
            try simp only [Act.put, List.getElem_toArray, List.getElem_cons_zero, List.getElem_cons_succ, List.setIfInBounds_toArray, List.set_cons_zero, List.set_cons_succ]
            refine wpAnyH_take (i := 28) (oi := _) (v := ?_) rfl (by kernel_rfl) (by kernel_rfl) (by kernel_rfl) (fun _ _ _ h => h) (Or.inl ⟨by rfl, ?_⟩) (by assumption) ?_
            rotate_left
            · intro w hSw
              (try dsimp only at hSw)
              go_simp
              try with_reducible rfl
            try simp only [Act.put, List.getElem_toArray, List.getElem_cons_zero, List.getElem_cons_succ, List.setIfInBounds_toArray, List.set_cons_zero, List.set_cons_succ]
            refine wpAnyH_done (by kernel_rfl) ?_ _
            go_wp2
            go_roundw
            case rel => exact ⟨k + 1, HLT.out, by go_num, belT BX (by iterate 8 try (first | assumption | exact belR _ | apply belDr | apply belAlloc))⟩
            case measure => have := HLT.out; simp [intOf]; omega
      · have hkB : decide ((k : Int) < (m : Int)) = false := by rw [decide_eq_false_iff_not]; omega
        have hkP : ((k : Int) < (m : Int)) = False := by rw [eq_iff_iff]; exact ⟨fun h => by omega, fun h => h.elim⟩
        obtain ⟨cxa, pxa, hcxa, _, hpxa, hxa, _⟩ := (q9.out).get (k := a1) (by simp only [List.length_set]; rw [← HM.out]; exact HAM.out)
        have hpx0 : pxa.length = 0 := by
          have e2 := hpxa.out
          rw [List.getElem?_set_ne (fun e => HAB.out e.symm), List.getElem?_set_self (by rw [← HM.out]; exact HAM.out)] at e2
          rw [← Option.some.inj e2]; rfl
        obtain ⟨axa, kxa, rfl, _, _⟩ := hxa.shapeN hpx0
        have lxa : g < w9.heap.size := block_lt_of_cell hcxa
        have HXA : Hid (∀ X, Below w9.heap.size w9 X → X.cell? ⟨g, a1, none⟩ = some (.slice axa 0 kxa)) := fun X hX => by
          rw [hX.cell (p := ⟨g, a1, none⟩) lxa]; exact hcxa
        have hall : ∀ r ∈ Ys, r.length ≤ 1048576 := fun r hr => by rw [HNE.out r hr]; have := HS9.out; omega
        have HALL := Lib.hid hall
        have EP : Hid (decide (Y.P Ys = ninth p sz) = true) := by show _ = _; rw [HYS.out]; exact decide_eq_true TL.out.2.2.2.2.1
        have EQ : Hid (decide (Y.Q Ys = ninth q sz) = true) := by show _ = _; rw [HYS.out]; exact decide_eq_true TL.out.2.2.2.2.2
        have HPw := Lib.hid (HPs.out.byt.up b9')
        have HQw := Lib.hid (HQs.out.byt.up b9')
        clear hall hpx0 hxa lxa hcxa
        go_wp2_with fail
        refine Calls.mono (refP_any _ Ys _ (RBH.out.parts.up BX) (by rw [HYL.out]; have := HX7.out; have := HM.out; omega) HALL.out) ?_
        rintro e wb ⟨vb, rfl, Ob, bb⟩
        go_wp2_with fail
        refine Calls.mono (same_any vb _ _ (ninth p sz) _ Ob.byt (HPw.out.up (belT BX bb))) ?_
        rw [EP.out]
        rintro e wc ⟨rfl, dc⟩
        have BC := belT BX (belT bb (dc.below _))
        go_wp2_with fail
        refine Calls.mono (refQ_any _ Ys _ (RBH.out.parts.up BC) (by rw [HYL.out]; have := HX7.out; have := HM.out; omega) HALL.out) ?_
        rintro e wd ⟨vd, rfl, Od, bd⟩
        go_wp2_with fail
        refine Calls.mono (same_any vd _ _ (ninth q sz) _ Od.byt (HQw.out.up (belT BC bd))) ?_
        rw [EQ.out]
        rintro e we ⟨rfl, de⟩
        have BE := belT BC (belT bd (de.below _))
        have hxa := HXA.out _ BE
        go_wp2_with fail
        refine Calls.mono (wakes4_any _) ?_
        rintro e wf ⟨rfl, bf⟩
        go_wp2_with fail
        go_ret
        exact ⟨rfl, belT BW9 (belT BE bf)⟩
  · have k2 : decide ((m : Int) < 2) = true := by rw [decide_eq_true_iff]; omega
    have k2p : ((m : Int) < 2) = True := by rw [eq_iff_iff]; exact ⟨fun _ => trivial, fun _ => by omega⟩
    obtain ⟨a1, k1, rfl, _, _⟩ := O1.parts.shape
    rw [← HM.out] at O1 ⊢
    clear O1
    go_wp2_with fail
    refine Calls.mono (wakes4_any _) ?_
    rintro e w20 ⟨rfl, b20⟩
    go_wp2_with fail
    go_ret
    exact ⟨rfl, belT b1 b20⟩
theorem eraseTwo_law (W : World) (v0 : Value) (l : List (List Nat)) (hl : Parts W v0 l) (_ : l.length * 24 ≤ 140737488351232) (n : Int) (hn : -9223372036854775808 ≤ n ∧ n ≤ 9223372036854775807) (a : Int) (ha : -9223372036854775808 ≤ a ∧ a ≤ 9223372036854775807) (b : Int) (hb : -9223372036854775808 ≤ b ∧ b ≤ 9223372036854775807) (pv : Value) (p : List Nat) (hp : Byt W pv p) (_ : p.length ≤ 140737488351232) (qv : Value) (q : List Nat) (hq : Byt W qv q) (_ : q.length ≤ 140737488351232) :
    Calls Try.prog 4 #[v0, .int .i64 n, .int .i64 a, .int .i64 b, pv, qv] W fun e W' => e = .returned (.bool true) ∧ Below W.heap.size W W' :=
  eraseTwo_walk v0 l n a b pv qv p q W hl hn ha hb hp hq
end Go.Proofs.Ytknodcaknopcnaa
