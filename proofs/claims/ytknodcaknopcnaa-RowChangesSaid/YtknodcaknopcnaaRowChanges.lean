/- The walk of RowChanges (chapter 13). True at every input. -/
import Derived.Test.YtknodcaknopcnaaRwC
import Derived.Test.YtknodcaknopcnaaWk13
import Derived.Deep.CutRange
namespace Go.Proofs.Ytknodcaknopcnaa
open Go.RowKit
set_option linter.unusedVariables false
set_option linter.unusedSimpArgs false
set_option maxRecDepth 100000
set_option maxHeartbeats 2000000

theorem wpList_append_nil_rows {P : Program} {w : World} {ops : Array Oper} {rest : List Oper} {o : Oper} {a : Act} {Q : Exit → Act → World → Prop} (hgd : o.guard = none) (s x : Operand) (t : TypeId)
    (ho : o.op = .call { callee := .builtin .append, args := #[s, x], argTypes := #[t, t] })
    (i : TypeInfo) (ht : P.underlying t = some (.slice 22)) (hi : P.info? 22 = some i) (hz : i.zero = some (.slice none 0 0)) (hsize : i.size = 1) (hby : i.bytes = 24)
    (hs : a.eval s = .slice none 0 0) (dv : Value) (ls : List (List Nat)) (hx : a.eval x = dv) (hp : Parts w dv ls) (hl : ls.length ≤ 1000)
    (h : ∀ v' w', RowB w' w.heap.size v' ls → w.grownBy w' none → wpList P ops Q rest (a.put o.dst v') w') : wpList P ops Q (o :: rest) a w := by
  obtain ⟨ao, cap, cs, rfl, h1, h2, h0, hat, hcl, hB⟩ := hp
  have hone : ∀ u ∈ cs, u.oneCell' = true := by
    intro u hu
    obtain ⟨i, hi, rfl⟩ := List.getElem_of_mem hu
    obtain ⟨c, e, hc⟩ := hB i (by omega)
    rw [List.getElem?_eq_getElem hi] at e
    cases e
    exact hc.one
  refine wpList_append_nil_at hgd s x t ho w.heap.size 22 i (.slice none 0 0) 1 24 ht hi hz hsize hby rfl (by decide) hs ao ls.length cap cs hx h0 h1 (by omega) hat hone (by simp only [maxLen]; omega) (by omega) (Nat.le_refl _) ?_
  intro v' w' hown hg
  refine h v' w' ⟨cs, hown, fun i hi => ?_⟩ hg
  obtain ⟨c, e, hc⟩ := hB i hi
  refine ⟨c, e, hc.up (grown_below hg), ?_⟩
  rcases List.eq_nil_or_concat (ls.getD i []) with e2 | ⟨_, _, e2⟩
  · exact .inl e2
  · refine .inr fun g hg1 hg2 => ?_
    have a1 := hc.block_lt (by rw [e2]; simp) g hg1
    have a2 := (hown.lt g hg2).1
    omega
/-- a row whose first k bytes are scaled, zeros behind -/
def sk (l : List Nat) (f k : Nat) : List Nat := (List.range 32).map (fun i => if i < k then G.gm (l.getD i 0) f else 0)
theorem sk_len (l : List Nat) (f k : Nat) : (sk l f k).length = 32 := by simp [sk]
theorem sk_zero (l : List Nat) (f : Nat) : sk l f 0 = List.replicate 32 0 := by
  apply List.ext_getElem (by simp [sk])
  intro i h1 h2
  rw [List.getElem_replicate]
  simp [sk]
theorem sk_get (l : List Nat) (f : Nat) {k : Nat} (hk : k < 32) : (sk l f k)[k]? = some 0 := by simp [sk, hk]
theorem sk_set (l : List Nat) (f : Nat) {k x : Nat} (hk : k < 32) (hx : l[k]? = some x) : (sk l f k).set k (G.gm x f) = sk l f (k + 1) := by
  apply List.ext_getElem (by simp [sk])
  intro i h1 h2
  rw [List.getElem_set]
  by_cases h : k = i
  · subst h; rw [if_pos rfl]; simp [sk, List.getD, hx]
  · rw [if_neg h]
    simp only [sk, List.getElem_map, List.getElem_range]
    by_cases h3 : i < k
    · rw [if_pos h3, if_pos (by omega)]
    · rw [if_neg h3, if_neg (by omega)]
theorem sk_end (l : List Nat) (f : Nat) (hl : l.length = 32) : sk l f 32 = Y.sclL l f := by
  apply List.ext_getElem (by rw [sk_len, Y.sclL_len, hl])
  intro i h1 h2
  have hi : i < 32 := by rw [sk_len] at h1; exact h1
  simp [sk, Y.sclL, List.getD, hl, hi]
attribute [local irreducible] Go.Calls Byt Own Parts RowB OwnD RowL
theorem rowChanges_law (w : World) (n : Int) (hn0 : -9223372036854775808 ≤ n ∧ n ≤ 9223372036854775807) (r0 : Int) (hr0 : -9223372036854775808 ≤ r0 ∧ r0 ≤ 9223372036854775807) (lv : Value) (ll : List Int) (hl : Ints w lv ll) (hll : ll.length * 8 ≤ 140737488351232) (k0 : Int) (hk0 : -9223372036854775808 ≤ k0 ∧ k0 ≤ 9223372036854775807) (x0 : Int) (hx0 : -9223372036854775808 ≤ x0 ∧ x0 ≤ 9223372036854775807) :
    Calls Try.prog 6 #[.int .i64 n, .int .i64 r0, lv, .int .i64 k0, .int .i64 x0] w fun e w' => e = .returned (.bool true) ∧ Below w.heap.size w w' := by
  obtain ⟨j0, hj, hy0, hy1, hy2⟩ := info_parts uint8_info
  obtain ⟨i0, hi, hz0, hz1, hz2⟩ := info_parts parts_info
  have hn : i64b n := hn0
  have HR := Lib.hid (show i64b r0 from hr0)
  have HK0 := Lib.hid (show i64b k0 from hk0)
  have HX0 := Lib.hid hx0
  have HLL := Lib.hid hl
  clear hn0 hr0 hk0 hx0 hl
  go_enter Try.func6, Try.ntmps6
  go_wp2_with fail
  refine Calls.mono (pgood_any n _ hn) ?_
  rintro e w1 ⟨l', d', c', rfl, hok, b1⟩
  obtain ⟨l, d, c, rfl, rfl, rfl, hokN⟩ := geo_okN hok
  obtain ⟨hl64, hd64, hc64⟩ := okN_in hokN
  have HOK := Lib.hid hokN
  have HK : Hid (∀ X, Below (w1.alloc (.cells #[.int .i64 (l : Int), .int .i64 (d : Int), .int .i64 (c : Int)] 42)).heap.size (w1.alloc (.cells #[.int .i64 (l : Int), .int .i64 (d : Int), .int .i64 (c : Int)] 42)) X → X.cell? ⟨w1.heap.size, 0, none⟩ = some (.int .i64 l) ∧ X.cell? ⟨w1.heap.size, 1, none⟩ = some (.int .i64 d) ∧ X.cell? ⟨w1.heap.size, 2, none⟩ = some (.int .i64 c)) :=
    fun X hX => ⟨box_up hX 0 rfl, box_up hX 1 rfl, box_up hX 2 rfl⟩
  have HW : Hid ((Geo.mk l d c).width = ((d - (l - 4) : Nat) : Int)) := by
    show _ = _
    unfold Geo.width
    rw [if_pos hok]
    have := hokN.1
    dsimp only
    omega
  have HRW := Lib.hid (refwidth_any l d c · hl64 hd64 hc64)
  have hd8 : Hid (1 ≤ d ∧ d ≤ 8 ∧ l - 4 + (d - (l - 4)) = d ∧ 1 ≤ d - (l - 4) ∧ 3 ≤ d ∧ l - 4 ≤ 2) := by
    obtain ⟨h1, h2, _⟩ := hokN
    refine ⟨?_, ?_, ?_, ?_, ?_, ?_⟩ <;> omega
  have hd81 : (1 : Int) ≤ (d : Int) := by have := hd8.out; omega
  have hd88 : (d : Int) ≤ 8 := by have := hd8.out; omega
  have hdd : ((d : Int) != (d : Int)) = false := by simp
  clear hl64 hd64 hc64 hokN hok hn
  go_wp2_with fail
  refine Calls.mono (within_ex r0 16 _ (by decide) (by decide) HR.out) ?_
  rintro e w2 ⟨r, rfl, hr, rfl⟩
  have HRR : Hid (r < 16) := Lib.hid (by omega)
  have BB : Hid (Below w.heap.size w (w1.alloc (.cells #[.int .i64 (l : Int), .int .i64 (d : Int), .int .i64 (c : Int)] 42))) := Lib.hid (belA1 b1)
  have HDI := Lib.hid (fun k w hk => refdisk_any l d c r k w HOK.out HRR.out hk)
  have HPA := Lib.hid (refparity_any l d c r · HOK.out HRR.out)
  clear hr
  obtain ⟨m, hm⟩ : ∃ m, m = d - (l - 4) := ⟨_, rfl⟩
  have HM := Lib.hid hm
  have hm8 : Hid (1 ≤ m ∧ m ≤ 8) := by have := hd8.out; show _ ∧ _; omega
  rw [← hm] at HW
  clear hm
  obtain ⟨c0, c1, c2⟩ := HK.out _ (belR _)
  go_wp2_with fail
  refine Calls.mono (HRW.out _) ?_
  rw [HW.out]
  rintro e w3 ⟨rfl, b3⟩
  go_wp2_with fail
  refine Calls.mono (sectors13_any _ ll m _ (HLL.out.up (belT BB.out b3)) (by have := hm8.out; omega)) ?_
  rintro e w4 ⟨v4, rfl, O4, b4⟩
  have B4 := belT b3 b4
  obtain ⟨data, hdata⟩ : ∃ data, data = sectL ll m := ⟨_, rfl⟩
  have DL : Hid (data.length = m) := by show _ = _; rw [hdata]; exact sectL_len _ _
  have D32 : Hid (∀ p ∈ data, p.length = 32) := by rw [hdata]; exact sectL_32 _ _
  have D8 : Hid (∀ p ∈ data, ∀ x ∈ p, x < 256) := by rw [hdata]; exact sectL_byte _ _
  have DW : Hid (data.length = d - (l - 4)) := by show _ = _; rw [DL.out]; exact HM.out
  rw [← hdata] at O4
  obtain ⟨gd, kd, he4, hgd1, hgd2, _, _⟩ := O4.toB.shape (by rw [DL.out]; have := hm8.out; omega)
  rw [DL.out] at he4
  subst he4
  have HD4 := Lib.hid O4.parts
  clear O4 hdata b3 b4 c0 c1 c2
  go_wp2_with fail
  refine Calls.mono (within_ex k0 m _ (by have := hm8.out; omega) (by have := hm8.out; omega) HK0.out) ?_
  rintro e w5 ⟨k, rfl, hk, rfl⟩
  have hkk0 : (0 : Int) ≤ (k : Int) := by omega
  have HKM : Hid (k < m) := Lib.hid (by omega)
  obtain ⟨c0, c1, c2⟩ := HK.out _ B4
  go_wp2_with fail
  refine Calls.mono (fill_any l d c r _ data _ HOK.out HRR.out HD4.out DW.out D32.out) ?_
  rintro e w5 ⟨v5, rfl, O5, b5⟩
  have hFl : (Y.fillL l d c r data).length = d := Y.fillL_len _ _ _ _ _
  obtain ⟨g5, k5, he5, hg51, hg52, _, _⟩ := O5.toB.shape (by rw [hFl]; have := hd8.out; omega)
  rw [hFl] at he5
  subst he5
  have HA5 := Lib.hid O5.parts
  have B5 := belT B4 b5
  have HD5 := Lib.hid (HD4.out.up b5)
  clear O5 c0 c1 c2 hg51
  go_wp2_with (at_builtin; go_loud (refine wpList_append_nil_rows rfl _ _ 25 rfl i0 Try.underlying25 hi hz0 hz1 hz2 rfl _ data rfl HD5.out (by rw [DL.out]; have := hm8.out; omega) ?_); intro v6 w6 O6 g6)
  have b6 := grown_below g6
  obtain ⟨gm, km, he6, hgm1, hgm2, _, _⟩ := O6.shape (by rw [DL.out]; have := hm8.out; omega)
  rw [DL.out] at he6
  subst he6
  have B6 := belT B5 b6
  refine Calls.mono (sector_any x0 _ HX0.out) ?_
  rintro e w7 ⟨v7, rfl, O7, b7⟩
  obtain ⟨s, hs⟩ : ∃ s, s = secL x0 := ⟨_, rfl⟩
  have S32 : Hid (s.length = 32) := by show _ = _; rw [hs]; exact secL_len _
  have S8 : Hid (∀ x ∈ s, x < 256) := by rw [hs]; exact secL_byte _
  rw [← hs] at O7
  obtain ⟨g7, k7, he7, hg71, hg72, _, _⟩ := O7.shape (by rw [S32.out]; decide)
  rw [S32.out] at he7
  subst he7
  have O6' := Lib.hid (O6.up b7)
  obtain ⟨cz, pz, hcz, hfz, _⟩ := O6'.out.get (k := k) (by rw [DL.out]; exact HKM.out)
  have q1 := Lib.hid (RowB.put O6'.out (k := k) (by rw [DL.out]; exact HKM.out) O7.byt (.inr (fun b hb e => by cases hb; have e' : gm = g7 := e; omega)))
  obtain ⟨w8, hw8⟩ : ∃ w8, w8 = w7.setCell ⟨gm, k, none⟩ (.slice (some ⟨g7, 0, none⟩) 32 k7) := ⟨_, rfl⟩
  have B58 : Below w5.heap.size w5 w8 := by rw [hw8]; exact (belT b6 b7).setCell (by show w5.heap.size ≤ gm; exact hgm1) _
  have q1 : Hid (RowB w8 w5.heap.size (.slice (some ⟨gm, 0, none⟩) m km) (data.set k s)) := by rw [hw8]; exact q1
  have B8 := belT B5 B58
  obtain ⟨c0, c1, c2⟩ := HK.out _ B8
  rw [hw8] at c0 c1 c2
  have M32 : Hid (∀ p ∈ data.set k s, p.length = 32) := Lib.hid (Y.set_mem D32.out S32.out)
  have MW : Hid ((data.set k s).length = d - (l - 4)) := by show _ = _; rw [List.length_set]; exact DW.out
  clear O6 O7 hs b7 hk
  go_wp2_with fail
  rw [← hw8]
  refine Calls.mono (fill_any l d c r _ (data.set k s) _ HOK.out HRR.out q1.out.parts MW.out M32.out) ?_
  rintro e w9 ⟨v9, rfl, O9, b9⟩
  have hFl2 : (Y.fillL l d c r (data.set k s)).length = d := Y.fillL_len _ _ _ _ _
  obtain ⟨g9, k9, he9, hg91, hg92, _, _⟩ := O9.toB.shape (by rw [hFl2]; have := hd8.out; omega)
  rw [hFl2] at he9
  subst he9
  have HA9 := Lib.hid O9.parts
  have B9 := belT B8 b9
  have b59 := belT B58 b9
  clear c0 c1 c2 hcz hfz O9 hg91
  obtain ⟨c0, c1, c2⟩ := HK.out _ B9
  go_wp2_with fail
  refine Calls.mono (HPA.out _) ?_
  rintro e w10 ⟨rfl, b10⟩
  have B10 := belT B9 b10
  clear c0 c1 c2
  obtain ⟨c0, c1, c2⟩ := HK.out _ B10
  go_wp2_with fail
  refine Calls.mono (HDI.out k _ (by rw [← HM.out]; exact HKM.out)) ?_
  rintro e w11 ⟨rfl, b11⟩
  have B11 := belT B10 b11
  have b511 := belT b59 (belT b10 b11)
  obtain ⟨o, ho⟩ : ∃ o, o = Y.off d c r (l - 4 + k) := ⟨_, rfl⟩
  obtain ⟨p, hp⟩ : ∃ p, p = Y.off d c r 0 := ⟨_, rfl⟩
  obtain ⟨q, hq⟩ : ∃ q, q = qd l d c r := ⟨_, rfl⟩
  rw [← ho, ← hp, ← hq]
  have HO := Lib.hid ho
  have HPP := Lib.hid hp
  have HQQ : Hid (∀ i : Nat, i < d → ((i : Int) = q ↔ (l = 6 ∧ i = Y.off d c r 1))) := by
    intro i hi
    have hl := HOK.out.1
    rw [hq]
    unfold qd
    split
    · constructor <;> intro h <;> omega
    · constructor
      · intro h; exact ⟨by omega, by omega⟩
      · rintro ⟨_, h⟩; rw [h]
  clear ho hp hq c0 c1 c2
  have HDx := Lib.hid (HD5.out.up b511)
  have q11 := Lib.hid (q1.out.up (belT b9 (belT b10 b11)))
  obtain ⟨bb, ob, cd, pd, hebb, hcd, hpd, hyd⟩ := HDx.out.get (k := k) (by rw [DL.out]; exact HKM.out)
  cases hebb
  rw [Nat.zero_add] at hcd
  obtain ⟨cm, pm, hcm, _, hpm, hym, _⟩ := q11.out.get (k := k) (by rw [List.length_set, DL.out]; exact HKM.out)
  obtain rfl : pm = s := by have := hpm.out; rw [List.getElem?_set_self (by rw [DL.out]; exact HKM.out)] at this; exact (Option.some.inj this).symm
  have hpd32 : pd.length = 32 := D32.out pd (List.mem_of_getElem? hpd.out)
  obtain ⟨ad, kd2, rfl, _, _⟩ := hyd.shapeN hpd32
  obtain ⟨am, km2, rfl, _, _⟩ := hym.shapeN S32.out
  have PD32 := Lib.hid hpd32
  have EPD : Hid (data.getD k [] = pd) := by show _ = _; rw [List.getD, hpd.out]; rfl
  have YD := Lib.hid hyd
  have YM := Lib.hid hym
  have lgd : gd < w11.heap.size := block_lt_of_cell hcd
  have lgm : gm < w11.heap.size := block_lt_of_cell hcm
  have HKC : Hid (∀ X, Below w11.heap.size w11 X → X.cell? ⟨gd, k, none⟩ = some (.slice ad 32 kd2) ∧ X.cell? ⟨gm, k, none⟩ = some (.slice am 32 km2)) := fun X hX => by
    rw [hX.cell (p := ⟨gd, k, none⟩) lgd, hX.cell (p := ⟨gm, k, none⟩) lgm]
    exact ⟨hcd, hcm⟩
  clear hyd hym hcd hcm hpd32 lgd lgm
  go_wp2_with fail
  go_cut [21] from 90 (fun v X => ∃ gc kc, v = .slice (some ⟨gc, 0, none⟩) 32 kc ∧ Hid (Own X w11.heap.size (.slice (some ⟨gc, 0, none⟩) 32 kc) (Y.addL pd pm)) ∧ Below w11.heap.size w11 X)
  · refine wp_region_held_drew (S := fun X => X.cell? ⟨gd, k, none⟩ = some (.slice ad 32 kd2) ∧ X.cell? ⟨gm, k, none⟩ = some (.slice am 32 km2)) (by kernel_rfl) (by exact HKC.out _ (by iterate 8 try (first | assumption | exact belR _ | apply belDr | apply belAlloc))) (fun hHeld => ?_)
    refine wpAnyH_take (i := 0) (oi := _) (v := ?_) rfl (by kernel_rfl) (by kernel_rfl) (by kernel_rfl) (fun _ _ _ h => h) (Or.inl ⟨by rfl, ?_⟩) (by assumption) ?_
    rotate_left
    · intro w hSw
      (try dsimp only at hSw)
      go_simp
      try with_reducible rfl
    try simp only [Act.put, List.getElem_toArray, List.getElem_cons_zero, List.getElem_cons_succ, List.setIfInBounds_toArray, List.set_cons_zero, List.set_cons_succ]
    refine wpAnyH_take (i := 1) (oi := _) (v := ?_) rfl (by kernel_rfl) (by kernel_rfl) (by kernel_rfl) (fun _ _ _ h => h) (Or.inl ⟨by rfl, ?_⟩) (by assumption) ?_
    rotate_left
    · intro w hSw
      (try dsimp only at hSw)
      go_simp
      try with_reducible rfl
    try simp only [Act.put, List.getElem_toArray, List.getElem_cons_zero, List.getElem_cons_succ, List.setIfInBounds_toArray, List.set_cons_zero, List.set_cons_succ]
    refine wpAnyH_take (i := 4) (oi := _) (v := ?_) rfl (by kernel_rfl) (by kernel_rfl) (by kernel_rfl) (fun _ _ _ h => h) (Or.inl ⟨by rfl, ?_⟩) (by assumption) ?_
    rotate_left
    · intro w hSw
      (try dsimp only at hSw)
      go_simp
      try with_reducible rfl
    try simp only [Act.put, List.getElem_toArray, List.getElem_cons_zero, List.getElem_cons_succ, List.setIfInBounds_toArray, List.set_cons_zero, List.set_cons_succ]
    refine wpAnyH_take (i := 5) (oi := _) (v := ?_) rfl (by kernel_rfl) (by kernel_rfl) (by kernel_rfl) (fun _ _ _ h => h) (Or.inl ⟨by rfl, ?_⟩) (by assumption) ?_
    rotate_left
    · intro w hSw
      (try dsimp only at hSw)
      go_simp
      try with_reducible rfl
    try simp only [Act.put, List.getElem_toArray, List.getElem_cons_zero, List.getElem_cons_succ, List.setIfInBounds_toArray, List.set_cons_zero, List.set_cons_succ]
    refine wpAnyH_take (i := 2) (oi := _) (v := ?_) rfl (by kernel_rfl) (by kernel_rfl) (by kernel_rfl) (fun _ _ _ h => h) (Or.inl ⟨by rfl, ?_⟩) (by assumption) ?_
    rotate_left
    · intro w hSw
      (try dsimp only at hSw)
      go_simp
      try with_reducible rfl
    try simp only [Act.put, List.getElem_toArray, List.getElem_cons_zero, List.getElem_cons_succ, List.setIfInBounds_toArray, List.set_cons_zero, List.set_cons_succ]
    refine wpAnyH_take (i := 6) (oi := _) (v := ?_) rfl (by kernel_rfl) (by kernel_rfl) (by kernel_rfl) (fun _ _ _ h => h) (Or.inl ⟨by rfl, ?_⟩) (by assumption) ?_
    rotate_left
    · intro w hSw
      (try dsimp only at hSw)
      go_simp
      try with_reducible rfl
    try simp only [Act.put, List.getElem_toArray, List.getElem_cons_zero, List.getElem_cons_succ, List.setIfInBounds_toArray, List.set_cons_zero, List.set_cons_succ]
    refine wpAnyH_take (i := 3) (oi := _) (v := ?_) rfl (by kernel_rfl) (by kernel_rfl) (by kernel_rfl) (fun _ _ _ h => h) (Or.inl ⟨by rfl, ?_⟩) (by assumption) ?_
    rotate_left
    · intro w hSw
      (try dsimp only at hSw)
      go_simp
      try with_reducible rfl
    try simp only [Act.put, List.getElem_toArray, List.getElem_cons_zero, List.getElem_cons_succ, List.setIfInBounds_toArray, List.set_cons_zero, List.set_cons_succ]
    refine wpAnyH_take (i := 7) (oi := _) (v := ?_) rfl (by kernel_rfl) (by kernel_rfl) (by kernel_rfl) (fun _ _ _ h => h) (Or.inl ⟨by rfl, ?_⟩) (by assumption) ?_
    rotate_left
    · intro w hSw
      (try dsimp only at hSw)
      go_simp
      try with_reducible rfl
    try simp only [Act.put, List.getElem_toArray, List.getElem_cons_zero, List.getElem_cons_succ, List.setIfInBounds_toArray, List.set_cons_zero, List.set_cons_succ]
    refine wpAnyH_ready (rs := [8]) (by kernel_rfl) (by simp) ?_
    refine AllReadyH.cons (o := _) rfl (fun K hK => ?_) AllReadyH.nil
    go_simp
    refine hK.out _ _ (by exact HKC.out _ (by iterate 8 try (first | assumption | exact belR _ | apply belDr | apply belAlloc))) (fun hHeld => ?_)
    clear hK K
    try simp only [Act.put, List.getElem_toArray, List.getElem_cons_zero, List.getElem_cons_succ, List.setIfInBounds_toArray, List.set_cons_zero, List.set_cons_succ]
    refine wpAnyH_ready (rs := [9]) (by kernel_rfl) (by simp) ?_
    refine AllReadyH.cons (o := _) rfl (fun K hK => ?_) AllReadyH.nil
    go_simp
    refine Calls.mono (refP_any _ [pd, pm] _ (by first | exact Parts.lit2 (by first | rfl | simp) (YD.out.up (by iterate 8 try (first | assumption | exact belR _ | apply belDr | apply belAlloc))) (YM.out.up (by iterate 8 try (first | assumption | exact belR _ | apply belDr | apply belAlloc))) | exact (Parts.lit2 (by first | rfl | simp) (YD.out.up (by iterate 8 try (first | assumption | exact belR _ | apply belDr | apply belAlloc))) (YM.out.up (by iterate 8 try (first | assumption | exact belR _ | apply belDr | apply belAlloc)))).drew) (by simp) (by simp [PD32.out, S32.out])) ?_
    rintro e w12 ⟨v12, rfl, O12, b12⟩
    have B12 : Below w11.heap.size w11 w12 := belT (by iterate 8 try (first | assumption | exact belR _ | apply belDr | apply belAlloc)) b12
    rw [Y.P_two YD.out.bytes YM.out.bytes] at O12
    obtain ⟨gc, kc, hec, hgc1, _, _, _⟩ := O12.shape (by rw [Y.addL_len2 PD32.out S32.out]; decide)
    rw [Y.addL_len2 PD32.out S32.out] at hec
    subst hec
    have O12' : Own w12 w11.heap.size (.slice (some ⟨gc, 0, none⟩) 32 kc) (Y.addL pd pm) := own_mono O12 ((by iterate 8 try (first | assumption | exact belR _ | apply belDr | apply belAlloc)) : Below w11.heap.size w11 _).size
    try go_simp
    refine hK.out _ _ (by exact HKC.out _ (by iterate 8 try (first | assumption | exact belR _ | apply belDr | apply belAlloc))) (fun hHeld => ?_)
    clear hK K
    try simp only [Act.put, List.getElem_toArray, List.getElem_cons_zero, List.getElem_cons_succ, List.setIfInBounds_toArray, List.set_cons_zero, List.set_cons_succ]
    refine wpAnyH_take (i := 10) (oi := _) (v := ?_) rfl (by kernel_rfl) (by kernel_rfl) (by kernel_rfl) (fun _ _ _ h => h) (Or.inl ⟨by rfl, ?_⟩) (by assumption) ?_
    rotate_left
    · intro w hSw
      (try dsimp only at hSw)
      go_simp
      try with_reducible rfl
    try simp only [Act.put, List.getElem_toArray, List.getElem_cons_zero, List.getElem_cons_succ, List.setIfInBounds_toArray, List.set_cons_zero, List.set_cons_succ]
    refine wpAnyH_done (by kernel_rfl) ?_ _
    go_wp2
    go_meet
    case rel => exact ⟨gc, kc, rfl, by first | exact Lib.hid O12' | exact Lib.hid (O12'.up (belDr (belR _))), by first | exact B12 | exact belDr B12⟩
  obtain ⟨gc, kc, rfl, OC, B12⟩ := hcut
  go_wp2_with fail
  refine Calls.mono (refpow_nat k _) ?_
  rintro e w12 ⟨rfl, rfl⟩
  obtain ⟨f, hf⟩ : ∃ f, f = G.pw k := ⟨_, rfl⟩
  rw [← hf]
  have HF := Lib.hid hf
  have HF8 : Hid (f < 256) := by rw [hf]; exact G.pw_lt _
  have HCH := Lib.hid (fun i hi => Y.changed (r := r) HOK.out DW.out D32.out D8.out (k := k) (by rw [← HM.out]; exact HKM.out) (s := pm) S32.out S8.out (i := i) hi)
  have ch32 : Hid ((Y.addL pd pm).length = 32) := Lib.hid (Y.addL_len2 PD32.out S32.out)
  have FA32 := Lib.hid (Y.fillL_32 (r := r) HOK.out DW.out D32.out)
  have FB32 := Lib.hid (Y.fillL_32 (r := r) HOK.out MW.out M32.out)
  have HA11 := Lib.hid (HA5.out.up b511)
  have HB11 := Lib.hid (HA9.out.up (belT b10 b11))
  rw [EPD.out] at HCH
  obtain ⟨ch, hch⟩ : ∃ ch, ch = Y.addL pd pm := ⟨_, rfl⟩
  rw [← hch] at OC HCH ch32
  have B511 := Lib.hid B11
  clear hf hch b6 b10 b11 b5 b9 b59 b511 B58
  go_wp2_with fail
  go_loopw [104] (fun i X => ∃ k : Nat, k ≤ d ∧ i = .int .i64 k ∧ Below wc.heap.size wc X) (fun i _ => d - (intOf i).toNat)
  case atStart => exact ⟨0, Nat.zero_le _, rfl, belR _⟩
  case round =>
    obtain ⟨i, hi, rfl, BX⟩ := hrel
    have B11x := belT B12 BX
    by_cases hlt : i < d
    · have HLT := Lib.hid hlt
      have hid : (i : Int) < (d : Int) := by omega
      have hi00 : (0 : Int) ≤ (i : Int) := by omega
      have hi1' : IntKind.i64.wrap ((i : Int) + 1) = ((i + 1 : Nat) : Int) := by have := hd8.out; rw [IntKind.wrap_i64]; omega
      obtain ⟨ba, oa, ca, pa, hea, hca, hpa, hya⟩ := (HA11.out.up B11x).get (k := i) (by rw [Y.fillL_len]; exact hlt)
      cases hea
      rw [Nat.zero_add] at hca
      obtain ⟨bb, ob, cb, pb, heb, hcb, hpb, hyb⟩ := (HB11.out.up B11x).get (k := i) (by rw [Y.fillL_len]; exact hlt)
      cases heb
      rw [Nat.zero_add] at hcb
      have pa32 : pa.length = 32 := FA32.out pa (List.mem_of_getElem? hpa.out)
      have pb32 : pb.length = 32 := FB32.out pb (List.mem_of_getElem? hpb.out)
      obtain ⟨aa, kaa, rfl, _, _⟩ := hya.shapeN pa32
      obtain ⟨ab, kab, rfl, _, _⟩ := hyb.shapeN pb32
      have YA := Lib.hid hya
      have YB := Lib.hid hyb
      have PA32 := Lib.hid pa32
      have PB32 := Lib.hid pb32
      have EC : Hid (Y.addL pa pb = Y.wantL l d c r k ch i) := by
        show _ = _
        rw [← HCH.out i hlt, show (Y.fillL l d c r data).getD i [] = pa by rw [List.getD, hpa.out]; rfl, show (Y.fillL l d c r (data.set k pm)).getD i [] = pb by rw [List.getD, hpb.out]; rfl]
      have la : g5 < wr.heap.size := block_lt_of_cell hca
      have lb : g9 < wr.heap.size := block_lt_of_cell hcb
      have HKR : Hid (∀ X, Below wr.heap.size wr X → X.cell? ⟨g5, i, none⟩ = some (.slice aa 32 kaa) ∧ X.cell? ⟨g9, i, none⟩ = some (.slice ab 32 kab)) := fun X hX => by
        rw [hX.cell (p := ⟨g5, i, none⟩) la, hX.cell (p := ⟨g9, i, none⟩) lb]
        exact ⟨hca, hcb⟩
      have OCr := Lib.hid (OC.out.up BX)
      clear hya hyb hca hcb pa32 pb32 la lb hlt hi
      by_cases io : i = o
      · have h1 : ((i : Int) == (o : Int)) = true := by rw [io]; simp
        have EW : Hid (Y.addL pa pb = ch) := by show _ = _; rw [EC.out]; unfold Y.wantL; rw [if_pos (.inl (by rw [io, HO.out]))]
        clear io
        go_wp2_with fail
        refine wp_region_held_drew (S := fun X => X.cell? ⟨g5, i, none⟩ = some (.slice aa 32 kaa) ∧ X.cell? ⟨g9, i, none⟩ = some (.slice ab 32 kab)) (by kernel_rfl) (by exact HKR.out _ (by iterate 8 try (first | assumption | exact belR _ | apply belDr | apply belAlloc))) (fun hHeld => ?_)
        refine wpAnyH_take (i := 0) (oi := _) (v := ?_) rfl (by kernel_rfl) (by kernel_rfl) (by kernel_rfl) (fun _ _ _ h => h) (Or.inl ⟨by rfl, ?_⟩) (by assumption) ?_
        rotate_left
        · intro w hSw
          (try dsimp only at hSw)
          go_simp
          try with_reducible rfl
        try simp only [Act.put, List.getElem_toArray, List.getElem_cons_zero, List.getElem_cons_succ, List.setIfInBounds_toArray, List.set_cons_zero, List.set_cons_succ]
        refine wpAnyH_take (i := 1) (oi := _) (v := ?_) rfl (by kernel_rfl) (by kernel_rfl) (by kernel_rfl) (fun _ _ _ h => h) (Or.inl ⟨by rfl, ?_⟩) (by assumption) ?_
        rotate_left
        · intro w hSw
          (try dsimp only at hSw)
          go_simp
          try with_reducible rfl
        try simp only [Act.put, List.getElem_toArray, List.getElem_cons_zero, List.getElem_cons_succ, List.setIfInBounds_toArray, List.set_cons_zero, List.set_cons_succ]
        refine wpAnyH_take (i := 4) (oi := _) (v := ?_) rfl (by kernel_rfl) (by kernel_rfl) (by kernel_rfl) (fun _ _ _ h => h) (Or.inl ⟨by rfl, ?_⟩) (by assumption) ?_
        rotate_left
        · intro w hSw
          (try dsimp only at hSw)
          go_simp
          try with_reducible rfl
        try simp only [Act.put, List.getElem_toArray, List.getElem_cons_zero, List.getElem_cons_succ, List.setIfInBounds_toArray, List.set_cons_zero, List.set_cons_succ]
        refine wpAnyH_take (i := 5) (oi := _) (v := ?_) rfl (by kernel_rfl) (by kernel_rfl) (by kernel_rfl) (fun _ _ _ h => h) (Or.inl ⟨by rfl, ?_⟩) (by assumption) ?_
        rotate_left
        · intro w hSw
          (try dsimp only at hSw)
          go_simp
          try with_reducible rfl
        try simp only [Act.put, List.getElem_toArray, List.getElem_cons_zero, List.getElem_cons_succ, List.setIfInBounds_toArray, List.set_cons_zero, List.set_cons_succ]
        refine wpAnyH_take (i := 2) (oi := _) (v := ?_) rfl (by kernel_rfl) (by kernel_rfl) (by kernel_rfl) (fun _ _ _ h => h) (Or.inl ⟨by rfl, ?_⟩) (by assumption) ?_
        rotate_left
        · intro w hSw
          (try dsimp only at hSw)
          go_simp
          try with_reducible rfl
        try simp only [Act.put, List.getElem_toArray, List.getElem_cons_zero, List.getElem_cons_succ, List.setIfInBounds_toArray, List.set_cons_zero, List.set_cons_succ]
        refine wpAnyH_take (i := 6) (oi := _) (v := ?_) rfl (by kernel_rfl) (by kernel_rfl) (by kernel_rfl) (fun _ _ _ h => h) (Or.inl ⟨by rfl, ?_⟩) (by assumption) ?_
        rotate_left
        · intro w hSw
          (try dsimp only at hSw)
          go_simp
          try with_reducible rfl
        try simp only [Act.put, List.getElem_toArray, List.getElem_cons_zero, List.getElem_cons_succ, List.setIfInBounds_toArray, List.set_cons_zero, List.set_cons_succ]
        refine wpAnyH_take (i := 3) (oi := _) (v := ?_) rfl (by kernel_rfl) (by kernel_rfl) (by kernel_rfl) (fun _ _ _ h => h) (Or.inl ⟨by rfl, ?_⟩) (by assumption) ?_
        rotate_left
        · intro w hSw
          (try dsimp only at hSw)
          go_simp
          try with_reducible rfl
        try simp only [Act.put, List.getElem_toArray, List.getElem_cons_zero, List.getElem_cons_succ, List.setIfInBounds_toArray, List.set_cons_zero, List.set_cons_succ]
        refine wpAnyH_take (i := 7) (oi := _) (v := ?_) rfl (by kernel_rfl) (by kernel_rfl) (by kernel_rfl) (fun _ _ _ h => h) (Or.inl ⟨by rfl, ?_⟩) (by assumption) ?_
        rotate_left
        · intro w hSw
          (try dsimp only at hSw)
          go_simp
          try with_reducible rfl
        try simp only [Act.put, List.getElem_toArray, List.getElem_cons_zero, List.getElem_cons_succ, List.setIfInBounds_toArray, List.set_cons_zero, List.set_cons_succ]
        refine wpAnyH_ready (rs := [8]) (by kernel_rfl) (by simp) ?_
        refine AllReadyH.cons (o := _) rfl (fun K hK => ?_) AllReadyH.nil
        go_simp
        refine hK.out _ _ (by exact HKR.out _ (by iterate 8 try (first | assumption | exact belR _ | apply belDr | apply belAlloc))) (fun hHeld => ?_)
        clear hK K
        try simp only [Act.put, List.getElem_toArray, List.getElem_cons_zero, List.getElem_cons_succ, List.setIfInBounds_toArray, List.set_cons_zero, List.set_cons_succ]
        refine wpAnyH_ready (rs := [9]) (by kernel_rfl) (by simp) ?_
        refine AllReadyH.cons (o := _) rfl (fun K hK => ?_) AllReadyH.nil
        go_simp
        refine Calls.mono (refP_any _ [pa, pb] _ (by first | exact Parts.lit2 (by first | rfl | simp) (YA.out.up (by iterate 8 try (first | assumption | exact belR _ | apply belDr | apply belAlloc))) (YB.out.up (by iterate 8 try (first | assumption | exact belR _ | apply belDr | apply belAlloc))) | exact (Parts.lit2 (by first | rfl | simp) (YA.out.up (by iterate 8 try (first | assumption | exact belR _ | apply belDr | apply belAlloc))) (YB.out.up (by iterate 8 try (first | assumption | exact belR _ | apply belDr | apply belAlloc)))).drew) (by simp) (by simp [PA32.out, PB32.out])) ?_
        rintro e w13 ⟨v13, rfl, O13, b13⟩
        have B13 : Below wr.heap.size wr w13 := belT (by iterate 8 try (first | assumption | exact belR _ | apply belDr | apply belAlloc)) b13
        rw [Y.P_two YA.out.bytes YB.out.bytes, EW.out] at O13
        try go_simp
        refine hK.out _ _ (by exact HKR.out _ (by iterate 8 try (first | assumption | exact belR _ | apply belDr | apply belAlloc))) (fun hHeld => ?_)
        clear hK K
        try simp only [Act.put, List.getElem_toArray, List.getElem_cons_zero, List.getElem_cons_succ, List.setIfInBounds_toArray, List.set_cons_zero, List.set_cons_succ]
        refine wpAnyH_take (i := 10) (oi := _) (v := ?_) rfl (by kernel_rfl) (by kernel_rfl) (by kernel_rfl) (fun _ _ _ h => h) (Or.inl ⟨by rfl, ?_⟩) (by assumption) ?_
        rotate_left
        · intro w hSw
          (try dsimp only at hSw)
          go_simp
          try with_reducible rfl
        try simp only [Act.put, List.getElem_toArray, List.getElem_cons_zero, List.getElem_cons_succ, List.setIfInBounds_toArray, List.set_cons_zero, List.set_cons_succ]
        refine wpAnyH_done (by kernel_rfl) ?_ _
        have Y13 := O13.byt
        clear O13
        go_wp2_with (at_make; refine wpList_make_bytes rfl _ _ 22 rfl j0 Try.underlying22 hj hy0 hy1 hy2 _ _ _ _ 32 rfl rfl rfl rfl (by decide) ?_; intro w14 O14 b14)
        refine Calls.mono (same_any _ _ ch ch _ (Y13.up (by first | exact b14 | exact belT (belDr (belR _)) b14)) (OCr.out.byt.up (belT (by first | exact B13 | exact belDr B13) b14))) ?_
        rw [decide_eq_true rfl]
        rintro e w15 ⟨rfl, d15⟩
        go_wp2
        go_roundw
        case rel => exact ⟨i + 1, HLT.out, by go_num, belT BX (belT (belT (by first | exact B13 | exact belDr B13) b14) (d15.below _))⟩
        case measure => have := HLT.out; simp [intOf]; omega
      · have h1 : ((i : Int) == (o : Int)) = false := by rw [beq_eq_false_iff_ne]; omega
        have HIO := Lib.hid io
        clear io
        by_cases ip : i = p
        · have h2 : ((i : Int) == (p : Int)) = true := by rw [ip]; simp
          have EW : Hid (Y.addL pa pb = ch) := by show _ = _; rw [EC.out]; unfold Y.wantL; rw [if_pos (.inr (by rw [ip, HPP.out]))]
          clear ip
          go_wp2_with fail
          refine wp_region_held_drew (S := fun X => X.cell? ⟨g5, i, none⟩ = some (.slice aa 32 kaa) ∧ X.cell? ⟨g9, i, none⟩ = some (.slice ab 32 kab)) (by kernel_rfl) (by exact HKR.out _ (by iterate 8 try (first | assumption | exact belR _ | apply belDr | apply belAlloc))) (fun hHeld => ?_)
          refine wpAnyH_take (i := 0) (oi := _) (v := ?_) rfl (by kernel_rfl) (by kernel_rfl) (by kernel_rfl) (fun _ _ _ h => h) (Or.inl ⟨by rfl, ?_⟩) (by assumption) ?_
          rotate_left
          · intro w hSw
            (try dsimp only at hSw)
            go_simp
            try with_reducible rfl
          try simp only [Act.put, List.getElem_toArray, List.getElem_cons_zero, List.getElem_cons_succ, List.setIfInBounds_toArray, List.set_cons_zero, List.set_cons_succ]
          refine wpAnyH_take (i := 1) (oi := _) (v := ?_) rfl (by kernel_rfl) (by kernel_rfl) (by kernel_rfl) (fun _ _ _ h => h) (Or.inl ⟨by rfl, ?_⟩) (by assumption) ?_
          rotate_left
          · intro w hSw
            (try dsimp only at hSw)
            go_simp
            try with_reducible rfl
          try simp only [Act.put, List.getElem_toArray, List.getElem_cons_zero, List.getElem_cons_succ, List.setIfInBounds_toArray, List.set_cons_zero, List.set_cons_succ]
          refine wpAnyH_take (i := 4) (oi := _) (v := ?_) rfl (by kernel_rfl) (by kernel_rfl) (by kernel_rfl) (fun _ _ _ h => h) (Or.inl ⟨by rfl, ?_⟩) (by assumption) ?_
          rotate_left
          · intro w hSw
            (try dsimp only at hSw)
            go_simp
            try with_reducible rfl
          try simp only [Act.put, List.getElem_toArray, List.getElem_cons_zero, List.getElem_cons_succ, List.setIfInBounds_toArray, List.set_cons_zero, List.set_cons_succ]
          refine wpAnyH_take (i := 5) (oi := _) (v := ?_) rfl (by kernel_rfl) (by kernel_rfl) (by kernel_rfl) (fun _ _ _ h => h) (Or.inl ⟨by rfl, ?_⟩) (by assumption) ?_
          rotate_left
          · intro w hSw
            (try dsimp only at hSw)
            go_simp
            try with_reducible rfl
          try simp only [Act.put, List.getElem_toArray, List.getElem_cons_zero, List.getElem_cons_succ, List.setIfInBounds_toArray, List.set_cons_zero, List.set_cons_succ]
          refine wpAnyH_take (i := 2) (oi := _) (v := ?_) rfl (by kernel_rfl) (by kernel_rfl) (by kernel_rfl) (fun _ _ _ h => h) (Or.inl ⟨by rfl, ?_⟩) (by assumption) ?_
          rotate_left
          · intro w hSw
            (try dsimp only at hSw)
            go_simp
            try with_reducible rfl
          try simp only [Act.put, List.getElem_toArray, List.getElem_cons_zero, List.getElem_cons_succ, List.setIfInBounds_toArray, List.set_cons_zero, List.set_cons_succ]
          refine wpAnyH_take (i := 6) (oi := _) (v := ?_) rfl (by kernel_rfl) (by kernel_rfl) (by kernel_rfl) (fun _ _ _ h => h) (Or.inl ⟨by rfl, ?_⟩) (by assumption) ?_
          rotate_left
          · intro w hSw
            (try dsimp only at hSw)
            go_simp
            try with_reducible rfl
          try simp only [Act.put, List.getElem_toArray, List.getElem_cons_zero, List.getElem_cons_succ, List.setIfInBounds_toArray, List.set_cons_zero, List.set_cons_succ]
          refine wpAnyH_take (i := 3) (oi := _) (v := ?_) rfl (by kernel_rfl) (by kernel_rfl) (by kernel_rfl) (fun _ _ _ h => h) (Or.inl ⟨by rfl, ?_⟩) (by assumption) ?_
          rotate_left
          · intro w hSw
            (try dsimp only at hSw)
            go_simp
            try with_reducible rfl
          try simp only [Act.put, List.getElem_toArray, List.getElem_cons_zero, List.getElem_cons_succ, List.setIfInBounds_toArray, List.set_cons_zero, List.set_cons_succ]
          refine wpAnyH_take (i := 7) (oi := _) (v := ?_) rfl (by kernel_rfl) (by kernel_rfl) (by kernel_rfl) (fun _ _ _ h => h) (Or.inl ⟨by rfl, ?_⟩) (by assumption) ?_
          rotate_left
          · intro w hSw
            (try dsimp only at hSw)
            go_simp
            try with_reducible rfl
          try simp only [Act.put, List.getElem_toArray, List.getElem_cons_zero, List.getElem_cons_succ, List.setIfInBounds_toArray, List.set_cons_zero, List.set_cons_succ]
          refine wpAnyH_ready (rs := [8]) (by kernel_rfl) (by simp) ?_
          refine AllReadyH.cons (o := _) rfl (fun K hK => ?_) AllReadyH.nil
          go_simp
          refine hK.out _ _ (by exact HKR.out _ (by iterate 8 try (first | assumption | exact belR _ | apply belDr | apply belAlloc))) (fun hHeld => ?_)
          clear hK K
          try simp only [Act.put, List.getElem_toArray, List.getElem_cons_zero, List.getElem_cons_succ, List.setIfInBounds_toArray, List.set_cons_zero, List.set_cons_succ]
          refine wpAnyH_ready (rs := [9]) (by kernel_rfl) (by simp) ?_
          refine AllReadyH.cons (o := _) rfl (fun K hK => ?_) AllReadyH.nil
          go_simp
          refine Calls.mono (refP_any _ [pa, pb] _ (by first | exact Parts.lit2 (by first | rfl | simp) (YA.out.up (by iterate 8 try (first | assumption | exact belR _ | apply belDr | apply belAlloc))) (YB.out.up (by iterate 8 try (first | assumption | exact belR _ | apply belDr | apply belAlloc))) | exact (Parts.lit2 (by first | rfl | simp) (YA.out.up (by iterate 8 try (first | assumption | exact belR _ | apply belDr | apply belAlloc))) (YB.out.up (by iterate 8 try (first | assumption | exact belR _ | apply belDr | apply belAlloc)))).drew) (by simp) (by simp [PA32.out, PB32.out])) ?_
          rintro e w13 ⟨v13, rfl, O13, b13⟩
          have B13 : Below wr.heap.size wr w13 := belT (by iterate 8 try (first | assumption | exact belR _ | apply belDr | apply belAlloc)) b13
          rw [Y.P_two YA.out.bytes YB.out.bytes, EW.out] at O13
          try go_simp
          refine hK.out _ _ (by exact HKR.out _ (by iterate 8 try (first | assumption | exact belR _ | apply belDr | apply belAlloc))) (fun hHeld => ?_)
          clear hK K
          try simp only [Act.put, List.getElem_toArray, List.getElem_cons_zero, List.getElem_cons_succ, List.setIfInBounds_toArray, List.set_cons_zero, List.set_cons_succ]
          refine wpAnyH_take (i := 10) (oi := _) (v := ?_) rfl (by kernel_rfl) (by kernel_rfl) (by kernel_rfl) (fun _ _ _ h => h) (Or.inl ⟨by rfl, ?_⟩) (by assumption) ?_
          rotate_left
          · intro w hSw
            (try dsimp only at hSw)
            go_simp
            try with_reducible rfl
          try simp only [Act.put, List.getElem_toArray, List.getElem_cons_zero, List.getElem_cons_succ, List.setIfInBounds_toArray, List.set_cons_zero, List.set_cons_succ]
          refine wpAnyH_done (by kernel_rfl) ?_ _
          have Y13 := O13.byt
          clear O13
          go_wp2_with (at_make; refine wpList_make_bytes rfl _ _ 22 rfl j0 Try.underlying22 hj hy0 hy1 hy2 _ _ _ _ 32 rfl rfl rfl rfl (by decide) ?_; intro w14 O14 b14)
          refine Calls.mono (same_any _ _ ch ch _ (Y13.up (by first | exact b14 | exact belT (belDr (belR _)) b14)) (OCr.out.byt.up (belT (by first | exact B13 | exact belDr B13) b14))) ?_
          rw [decide_eq_true rfl]
          rintro e w15 ⟨rfl, d15⟩
          go_wp2
          go_roundw
          case rel => exact ⟨i + 1, HLT.out, by go_num, belT BX (belT (belT (by first | exact B13 | exact belDr B13) b14) (d15.below _))⟩
          case measure => have := HLT.out; simp [intOf]; omega
        · have h2 : ((i : Int) == (p : Int)) = false := by rw [beq_eq_false_iff_ne]; omega
          have HIP := Lib.hid ip
          clear ip
          by_cases iq : (i : Int) = q
          · have h3 : ((i : Int) == q) = true := by rw [iq]; simp
            have EW : Hid (Y.addL pa pb = Y.sclL ch f) := by
              show _ = _
              rw [EC.out]; unfold Y.wantL
              rw [if_neg (fun e => e.elim (fun e => HIO.out (by rw [HO.out]; exact e)) (fun e => HIP.out (by rw [HPP.out]; exact e))), if_pos ((HQQ.out i HLT.out).1 iq), HF.out]
            clear iq
            go_wp2_with fail
            refine wp_region_held_drew (S := fun X => X.cell? ⟨g5, i, none⟩ = some (.slice aa 32 kaa) ∧ X.cell? ⟨g9, i, none⟩ = some (.slice ab 32 kab)) (by kernel_rfl) (by exact HKR.out _ (by iterate 8 try (first | assumption | exact belR _ | apply belDr | apply belAlloc))) (fun hHeld => ?_)
            refine wpAnyH_take (i := 0) (oi := _) (v := ?_) rfl (by kernel_rfl) (by kernel_rfl) (by kernel_rfl) (fun _ _ _ h => h) (Or.inl ⟨by rfl, ?_⟩) (by assumption) ?_
            rotate_left
            · intro w hSw
              (try dsimp only at hSw)
              go_simp
              try with_reducible rfl
            try simp only [Act.put, List.getElem_toArray, List.getElem_cons_zero, List.getElem_cons_succ, List.setIfInBounds_toArray, List.set_cons_zero, List.set_cons_succ]
            refine wpAnyH_take (i := 1) (oi := _) (v := ?_) rfl (by kernel_rfl) (by kernel_rfl) (by kernel_rfl) (fun _ _ _ h => h) (Or.inl ⟨by rfl, ?_⟩) (by assumption) ?_
            rotate_left
            · intro w hSw
              (try dsimp only at hSw)
              go_simp
              try with_reducible rfl
            try simp only [Act.put, List.getElem_toArray, List.getElem_cons_zero, List.getElem_cons_succ, List.setIfInBounds_toArray, List.set_cons_zero, List.set_cons_succ]
            refine wpAnyH_take (i := 4) (oi := _) (v := ?_) rfl (by kernel_rfl) (by kernel_rfl) (by kernel_rfl) (fun _ _ _ h => h) (Or.inl ⟨by rfl, ?_⟩) (by assumption) ?_
            rotate_left
            · intro w hSw
              (try dsimp only at hSw)
              go_simp
              try with_reducible rfl
            try simp only [Act.put, List.getElem_toArray, List.getElem_cons_zero, List.getElem_cons_succ, List.setIfInBounds_toArray, List.set_cons_zero, List.set_cons_succ]
            refine wpAnyH_take (i := 5) (oi := _) (v := ?_) rfl (by kernel_rfl) (by kernel_rfl) (by kernel_rfl) (fun _ _ _ h => h) (Or.inl ⟨by rfl, ?_⟩) (by assumption) ?_
            rotate_left
            · intro w hSw
              (try dsimp only at hSw)
              go_simp
              try with_reducible rfl
            try simp only [Act.put, List.getElem_toArray, List.getElem_cons_zero, List.getElem_cons_succ, List.setIfInBounds_toArray, List.set_cons_zero, List.set_cons_succ]
            refine wpAnyH_take (i := 2) (oi := _) (v := ?_) rfl (by kernel_rfl) (by kernel_rfl) (by kernel_rfl) (fun _ _ _ h => h) (Or.inl ⟨by rfl, ?_⟩) (by assumption) ?_
            rotate_left
            · intro w hSw
              (try dsimp only at hSw)
              go_simp
              try with_reducible rfl
            try simp only [Act.put, List.getElem_toArray, List.getElem_cons_zero, List.getElem_cons_succ, List.setIfInBounds_toArray, List.set_cons_zero, List.set_cons_succ]
            refine wpAnyH_take (i := 6) (oi := _) (v := ?_) rfl (by kernel_rfl) (by kernel_rfl) (by kernel_rfl) (fun _ _ _ h => h) (Or.inl ⟨by rfl, ?_⟩) (by assumption) ?_
            rotate_left
            · intro w hSw
              (try dsimp only at hSw)
              go_simp
              try with_reducible rfl
            try simp only [Act.put, List.getElem_toArray, List.getElem_cons_zero, List.getElem_cons_succ, List.setIfInBounds_toArray, List.set_cons_zero, List.set_cons_succ]
            refine wpAnyH_take (i := 3) (oi := _) (v := ?_) rfl (by kernel_rfl) (by kernel_rfl) (by kernel_rfl) (fun _ _ _ h => h) (Or.inl ⟨by rfl, ?_⟩) (by assumption) ?_
            rotate_left
            · intro w hSw
              (try dsimp only at hSw)
              go_simp
              try with_reducible rfl
            try simp only [Act.put, List.getElem_toArray, List.getElem_cons_zero, List.getElem_cons_succ, List.setIfInBounds_toArray, List.set_cons_zero, List.set_cons_succ]
            refine wpAnyH_take (i := 7) (oi := _) (v := ?_) rfl (by kernel_rfl) (by kernel_rfl) (by kernel_rfl) (fun _ _ _ h => h) (Or.inl ⟨by rfl, ?_⟩) (by assumption) ?_
            rotate_left
            · intro w hSw
              (try dsimp only at hSw)
              go_simp
              try with_reducible rfl
            try simp only [Act.put, List.getElem_toArray, List.getElem_cons_zero, List.getElem_cons_succ, List.setIfInBounds_toArray, List.set_cons_zero, List.set_cons_succ]
            refine wpAnyH_ready (rs := [8]) (by kernel_rfl) (by simp) ?_
            refine AllReadyH.cons (o := _) rfl (fun K hK => ?_) AllReadyH.nil
            go_simp
            refine hK.out _ _ (by exact HKR.out _ (by iterate 8 try (first | assumption | exact belR _ | apply belDr | apply belAlloc))) (fun hHeld => ?_)
            clear hK K
            try simp only [Act.put, List.getElem_toArray, List.getElem_cons_zero, List.getElem_cons_succ, List.setIfInBounds_toArray, List.set_cons_zero, List.set_cons_succ]
            refine wpAnyH_ready (rs := [9]) (by kernel_rfl) (by simp) ?_
            refine AllReadyH.cons (o := _) rfl (fun K hK => ?_) AllReadyH.nil
            go_simp
            refine Calls.mono (refP_any _ [pa, pb] _ (by first | exact Parts.lit2 (by first | rfl | simp) (YA.out.up (by iterate 8 try (first | assumption | exact belR _ | apply belDr | apply belAlloc))) (YB.out.up (by iterate 8 try (first | assumption | exact belR _ | apply belDr | apply belAlloc))) | exact (Parts.lit2 (by first | rfl | simp) (YA.out.up (by iterate 8 try (first | assumption | exact belR _ | apply belDr | apply belAlloc))) (YB.out.up (by iterate 8 try (first | assumption | exact belR _ | apply belDr | apply belAlloc)))).drew) (by simp) (by simp [PA32.out, PB32.out])) ?_
            rintro e w13 ⟨v13, rfl, O13, b13⟩
            have B13 : Below wr.heap.size wr w13 := belT (by iterate 8 try (first | assumption | exact belR _ | apply belDr | apply belAlloc)) b13
            rw [Y.P_two YA.out.bytes YB.out.bytes, EW.out] at O13
            try go_simp
            refine hK.out _ _ (by exact HKR.out _ (by iterate 8 try (first | assumption | exact belR _ | apply belDr | apply belAlloc))) (fun hHeld => ?_)
            clear hK K
            try simp only [Act.put, List.getElem_toArray, List.getElem_cons_zero, List.getElem_cons_succ, List.setIfInBounds_toArray, List.set_cons_zero, List.set_cons_succ]
            refine wpAnyH_take (i := 10) (oi := _) (v := ?_) rfl (by kernel_rfl) (by kernel_rfl) (by kernel_rfl) (fun _ _ _ h => h) (Or.inl ⟨by rfl, ?_⟩) (by assumption) ?_
            rotate_left
            · intro w hSw
              (try dsimp only at hSw)
              go_simp
              try with_reducible rfl
            try simp only [Act.put, List.getElem_toArray, List.getElem_cons_zero, List.getElem_cons_succ, List.setIfInBounds_toArray, List.set_cons_zero, List.set_cons_succ]
            refine wpAnyH_done (by kernel_rfl) ?_ _
            have Y13 := O13.byt
            clear O13
            go_wp2_with (at_make; refine wpList_make_bytes rfl _ _ 22 rfl j0 Try.underlying22 hj hy0 hy1 hy2 _ _ _ _ 32 rfl rfl rfl rfl (by decide) ?_; intro w14 O14 b14)
            have O14' : Own w14 w13.heap.size (.slice (some ⟨w13.heap.size, 0, none⟩) 32 32) (List.replicate 32 0) := by first | exact O14 | simpa using O14
            have b14' : Below w13.heap.size w13 w14 := by first | exact b14 | exact belT (belDr (belR _)) b14
            obtain ⟨gz, hgz⟩ : ∃ gz, gz = w13.heap.size := ⟨_, rfl⟩
            rw [← hgz] at O14'
            try rw [← hgz]
            have hgzle : w13.heap.size ≤ gz := by omega
            have Y13H := Lib.hid Y13
            have OC13 := Lib.hid (OCr.out.up B13)
            have BX13 := belT BX B13
            have HZ0 := Lib.hid O14'
            clear O14 O14' b14 Y13 OCr hgz
            go_loopw [130] (fun jv X => ∃ j : Nat, j ≤ 32 ∧ jv = .int .i64 j ∧ Hid (Own X gz (.slice (some ⟨gz, 0, none⟩) 32 32) (sk ch f j)) ∧ Below w13.heap.size w13 X) (fun jv _ => 32 - (intOf jv).toNat)
            case atStart => exact ⟨0, Nat.zero_le _, rfl, by rw [sk_zero]; exact HZ0, b14'⟩
            case round =>
              obtain ⟨j, hj, rfl, HZ, BZ⟩ := hrel
              by_cases hjt : j < 32
              · obtain ⟨x, hx⟩ : ∃ x, ch[j]? = some x := ⟨_, List.getElem?_eq_getElem (by rw [ch32.out]; exact hjt)⟩
                obtain ⟨hx8, hxa, _⟩ := (OC13.out.up BZ).cells hx
                obtain ⟨_, hza, hzf⟩ := HZ.out.cells (sk_get ch f hjt)
                have hst := HZ.out.store j (G.gm x f) (G.gm_lt _ hx8)
                have e1 := sk_set ch f hjt hx
                have HS := hst.1
                rw [e1] at HS
                have HS := Lib.hid HS
                obtain ⟨y, hy⟩ : ∃ y, y = G.gm x f := ⟨_, rfl⟩
                rw [← hy] at HS
                have HYE := Lib.hid hy
                have HX8 := Lib.hid hx8
                have BS : Below w13.heap.size w13 (wr.setCell ⟨gz, j, none⟩ (.int .u8 (y : Int))) := BZ.setCell (by show w13.heap.size ≤ gz; exact hgzle) _
                have HJ := Lib.hid hjt
                have hj0 : (0 : Int) ≤ (j : Int) := by omega
                have hj32 : (j : Int) < 32 := by omega
                have hj1' : IntKind.i64.wrap ((j : Int) + 1) = ((j + 1 : Nat) : Int) := by rw [IntKind.wrap_i64]; omega
                clear hst e1 hy hx hx8 hjt
                go_wp2_with fail
                refine Calls.mono (refmul_any x f _ HX8.out HF8.out) ?_
                rw [← HYE.out]
                rintro e w16 ⟨rfl, rfl⟩
                go_wp2
                go_roundw
                case rel => exact ⟨j + 1, HJ.out, by go_num, HS, BS⟩
                case measure => have := HJ.out; simp [intOf]; omega
              · have hjB : decide ((j : Int) < 32) = false := by rw [decide_eq_false_iff_not]; omega
                have hjP : ((j : Int) < 32) = False := by rw [eq_iff_iff]; exact ⟨fun h => by omega, fun h => h.elim⟩
                have ej : j = 32 := by omega
                rw [ej, sk_end ch f ch32.out] at HZ
                clear ej hjt hj
                go_wp2_with fail
                refine Calls.mono (same_any _ _ (Y.sclL ch f) (Y.sclL ch f) _ (Y13H.out.up BZ) HZ.out.byt) ?_
                rw [decide_eq_true rfl]
                rintro e w15 ⟨rfl, d15⟩
                go_wp2
                go_roundw
                case rel => exact ⟨i + 1, HLT.out, by go_num, belT BX13 (belT BZ (d15.below _))⟩
                case measure => have := HLT.out; simp [intOf]; omega
          · have h3 : ((i : Int) == q) = false := by rw [beq_eq_false_iff_ne]; exact iq
            have EW : Hid (Y.addL pa pb = List.replicate 32 0) := by
              show _ = _
              rw [EC.out]; unfold Y.wantL
              rw [if_neg (fun e => e.elim (fun e => HIO.out (by rw [HO.out]; exact e)) (fun e => HIP.out (by rw [HPP.out]; exact e))), if_neg (fun e => iq ((HQQ.out i HLT.out).2 e))]
            clear iq
            go_wp2_with fail
            refine wp_region_held_drew (S := fun X => X.cell? ⟨g5, i, none⟩ = some (.slice aa 32 kaa) ∧ X.cell? ⟨g9, i, none⟩ = some (.slice ab 32 kab)) (by kernel_rfl) (by exact HKR.out _ (by iterate 8 try (first | assumption | exact belR _ | apply belDr | apply belAlloc))) (fun hHeld => ?_)
            refine wpAnyH_take (i := 0) (oi := _) (v := ?_) rfl (by kernel_rfl) (by kernel_rfl) (by kernel_rfl) (fun _ _ _ h => h) (Or.inl ⟨by rfl, ?_⟩) (by assumption) ?_
            rotate_left
            · intro w hSw
              (try dsimp only at hSw)
              go_simp
              try with_reducible rfl
            try simp only [Act.put, List.getElem_toArray, List.getElem_cons_zero, List.getElem_cons_succ, List.setIfInBounds_toArray, List.set_cons_zero, List.set_cons_succ]
            refine wpAnyH_take (i := 1) (oi := _) (v := ?_) rfl (by kernel_rfl) (by kernel_rfl) (by kernel_rfl) (fun _ _ _ h => h) (Or.inl ⟨by rfl, ?_⟩) (by assumption) ?_
            rotate_left
            · intro w hSw
              (try dsimp only at hSw)
              go_simp
              try with_reducible rfl
            try simp only [Act.put, List.getElem_toArray, List.getElem_cons_zero, List.getElem_cons_succ, List.setIfInBounds_toArray, List.set_cons_zero, List.set_cons_succ]
            refine wpAnyH_take (i := 4) (oi := _) (v := ?_) rfl (by kernel_rfl) (by kernel_rfl) (by kernel_rfl) (fun _ _ _ h => h) (Or.inl ⟨by rfl, ?_⟩) (by assumption) ?_
            rotate_left
            · intro w hSw
              (try dsimp only at hSw)
              go_simp
              try with_reducible rfl
            try simp only [Act.put, List.getElem_toArray, List.getElem_cons_zero, List.getElem_cons_succ, List.setIfInBounds_toArray, List.set_cons_zero, List.set_cons_succ]
            refine wpAnyH_take (i := 5) (oi := _) (v := ?_) rfl (by kernel_rfl) (by kernel_rfl) (by kernel_rfl) (fun _ _ _ h => h) (Or.inl ⟨by rfl, ?_⟩) (by assumption) ?_
            rotate_left
            · intro w hSw
              (try dsimp only at hSw)
              go_simp
              try with_reducible rfl
            try simp only [Act.put, List.getElem_toArray, List.getElem_cons_zero, List.getElem_cons_succ, List.setIfInBounds_toArray, List.set_cons_zero, List.set_cons_succ]
            refine wpAnyH_take (i := 2) (oi := _) (v := ?_) rfl (by kernel_rfl) (by kernel_rfl) (by kernel_rfl) (fun _ _ _ h => h) (Or.inl ⟨by rfl, ?_⟩) (by assumption) ?_
            rotate_left
            · intro w hSw
              (try dsimp only at hSw)
              go_simp
              try with_reducible rfl
            try simp only [Act.put, List.getElem_toArray, List.getElem_cons_zero, List.getElem_cons_succ, List.setIfInBounds_toArray, List.set_cons_zero, List.set_cons_succ]
            refine wpAnyH_take (i := 6) (oi := _) (v := ?_) rfl (by kernel_rfl) (by kernel_rfl) (by kernel_rfl) (fun _ _ _ h => h) (Or.inl ⟨by rfl, ?_⟩) (by assumption) ?_
            rotate_left
            · intro w hSw
              (try dsimp only at hSw)
              go_simp
              try with_reducible rfl
            try simp only [Act.put, List.getElem_toArray, List.getElem_cons_zero, List.getElem_cons_succ, List.setIfInBounds_toArray, List.set_cons_zero, List.set_cons_succ]
            refine wpAnyH_take (i := 3) (oi := _) (v := ?_) rfl (by kernel_rfl) (by kernel_rfl) (by kernel_rfl) (fun _ _ _ h => h) (Or.inl ⟨by rfl, ?_⟩) (by assumption) ?_
            rotate_left
            · intro w hSw
              (try dsimp only at hSw)
              go_simp
              try with_reducible rfl
            try simp only [Act.put, List.getElem_toArray, List.getElem_cons_zero, List.getElem_cons_succ, List.setIfInBounds_toArray, List.set_cons_zero, List.set_cons_succ]
            refine wpAnyH_take (i := 7) (oi := _) (v := ?_) rfl (by kernel_rfl) (by kernel_rfl) (by kernel_rfl) (fun _ _ _ h => h) (Or.inl ⟨by rfl, ?_⟩) (by assumption) ?_
            rotate_left
            · intro w hSw
              (try dsimp only at hSw)
              go_simp
              try with_reducible rfl
            try simp only [Act.put, List.getElem_toArray, List.getElem_cons_zero, List.getElem_cons_succ, List.setIfInBounds_toArray, List.set_cons_zero, List.set_cons_succ]
            refine wpAnyH_ready (rs := [8]) (by kernel_rfl) (by simp) ?_
            refine AllReadyH.cons (o := _) rfl (fun K hK => ?_) AllReadyH.nil
            go_simp
            refine hK.out _ _ (by exact HKR.out _ (by iterate 8 try (first | assumption | exact belR _ | apply belDr | apply belAlloc))) (fun hHeld => ?_)
            clear hK K
            try simp only [Act.put, List.getElem_toArray, List.getElem_cons_zero, List.getElem_cons_succ, List.setIfInBounds_toArray, List.set_cons_zero, List.set_cons_succ]
            refine wpAnyH_ready (rs := [9]) (by kernel_rfl) (by simp) ?_
            refine AllReadyH.cons (o := _) rfl (fun K hK => ?_) AllReadyH.nil
            go_simp
            refine Calls.mono (refP_any _ [pa, pb] _ (by first | exact Parts.lit2 (by first | rfl | simp) (YA.out.up (by iterate 8 try (first | assumption | exact belR _ | apply belDr | apply belAlloc))) (YB.out.up (by iterate 8 try (first | assumption | exact belR _ | apply belDr | apply belAlloc))) | exact (Parts.lit2 (by first | rfl | simp) (YA.out.up (by iterate 8 try (first | assumption | exact belR _ | apply belDr | apply belAlloc))) (YB.out.up (by iterate 8 try (first | assumption | exact belR _ | apply belDr | apply belAlloc)))).drew) (by simp) (by simp [PA32.out, PB32.out])) ?_
            rintro e w13 ⟨v13, rfl, O13, b13⟩
            have B13 : Below wr.heap.size wr w13 := belT (by iterate 8 try (first | assumption | exact belR _ | apply belDr | apply belAlloc)) b13
            rw [Y.P_two YA.out.bytes YB.out.bytes, EW.out] at O13
            try go_simp
            refine hK.out _ _ (by exact HKR.out _ (by iterate 8 try (first | assumption | exact belR _ | apply belDr | apply belAlloc))) (fun hHeld => ?_)
            clear hK K
            try simp only [Act.put, List.getElem_toArray, List.getElem_cons_zero, List.getElem_cons_succ, List.setIfInBounds_toArray, List.set_cons_zero, List.set_cons_succ]
            refine wpAnyH_take (i := 10) (oi := _) (v := ?_) rfl (by kernel_rfl) (by kernel_rfl) (by kernel_rfl) (fun _ _ _ h => h) (Or.inl ⟨by rfl, ?_⟩) (by assumption) ?_
            rotate_left
            · intro w hSw
              (try dsimp only at hSw)
              go_simp
              try with_reducible rfl
            try simp only [Act.put, List.getElem_toArray, List.getElem_cons_zero, List.getElem_cons_succ, List.setIfInBounds_toArray, List.set_cons_zero, List.set_cons_succ]
            refine wpAnyH_done (by kernel_rfl) ?_ _
            have Y13 := O13.byt
            clear O13
            go_wp2_with (at_make; refine wpList_make_bytes rfl _ _ 22 rfl j0 Try.underlying22 hj hy0 hy1 hy2 _ _ _ _ 32 rfl rfl rfl rfl (by decide) ?_; intro w14 O14 b14)
            refine Calls.mono (same_any _ _ (List.replicate 32 0) (List.replicate 32 0) _ (Y13.up (by first | exact b14 | exact belT (belDr (belR _)) b14)) O14.byt) ?_
            rw [decide_eq_true rfl]
            rintro e w15 ⟨rfl, d15⟩
            go_wp2
            go_roundw
            case rel => exact ⟨i + 1, HLT.out, by go_num, belT BX (belT (belT (by first | exact B13 | exact belDr B13) b14) (d15.below _))⟩
            case measure => have := HLT.out; simp [intOf]; omega
    · have hkB : decide ((i : Int) < (d : Int)) = false := by rw [decide_eq_false_iff_not]; omega
      have hkP : ((i : Int) < (d : Int)) = False := by rw [eq_iff_iff]; exact ⟨fun h => by omega, fun h => h.elim⟩
      clear hlt hi
      go_wp2_with fail
      refine Calls.mono (wakes13_any _) ?_
      rintro e we ⟨rfl, be⟩
      go_wp2_with fail
      go_ret
      exact ⟨rfl, belT BB.out (belT B511.out (belT B11x be))⟩
end Go.Proofs.Ytknodcaknopcnaa
