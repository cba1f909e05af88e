/- The walks of row.Take, row.Right, and of a Fill that can't be. -/
import Derived.Test.YtknodcaknopcnaaRwF
import Derived.Test.YtknodcaknopcnaaEraS
namespace Go.Proofs.Ytknodcaknopcnaa
open Go.RowKit
set_option linter.unusedVariables false
set_option linter.unusedSimpArgs false
set_option maxRecDepth 100000
set_option maxHeartbeats 2000000

/-- a row of rows owned, the rows below base -/
def RowL (w : World) (base : Nat) (v : Value) (ls : List (List Nat)) : Prop :=
  ∃ cs, w.ownsRow base 22 1 v ls.length cs ∧ ∀ i, i < ls.length → ∃ c, cs[i]? = some c ∧ Byt w c (ls.getD i []) ∧ (ls.getD i [] = [] ∨ ∀ g, c.ownBlock = some g → g < base)
theorem RowL.nil (w : World) (base : Nat) : RowL w base (.slice none 0 0) [] := ⟨[], World.ownsRow_nil _ _ _ _, fun i hi => by simp at hi⟩
theorem RowL.up {w w1 : World} {base : Nat} {v : Value} {ls : List (List Nat)} (h : RowL w base v ls) (hb : Below w.heap.size w w1) : RowL w1 base v ls := by
  obtain ⟨cs, h1, h2⟩ := h
  exact ⟨cs, row_up h1 hb, fun i hi => let ⟨c, e, hc, hx⟩ := h2 i hi; ⟨c, e, hc.up hb, hx⟩⟩
theorem RowL.parts {w : World} {base : Nat} {v : Value} {ls : List (List Nat)} (h : RowL w base v ls) : Parts w v ls := by
  obtain ⟨cs, h1, h2⟩ := h
  exact Parts.of_own h1 (by have := h1.1; omega) fun i hi => let ⟨c, e, hc, _⟩ := h2 i hi; ⟨c, e, hc⟩
theorem RowL.ge {w : World} {base : Nat} {v : Value} {ls : List (List Nat)} (h : RowL w base v ls) : ∀ g, v.ownBlock = some g → base ≤ g := fun g hg => let ⟨_, h1, _⟩ := h; (h1.lt g hg).1
theorem RowL.toB {w : World} {base : Nat} {v : Value} {ls : List (List Nat)} (h : RowL w base v ls) : RowB w base v ls := by
  have hge := h.ge
  obtain ⟨cs, h1, h2⟩ := h
  refine ⟨cs, h1, fun i hi => ?_⟩
  obtain ⟨c, e, hc, hx⟩ := h2 i hi
  exact ⟨c, e, hc, hx.imp id fun h g hg e2 => by have := h g hg; have := hge g e2; omega⟩
theorem wpList_append_rowL {P : Program} {w : World} {ops : Array Oper} {rest : List Oper} {o : Oper} {a : Act} {Q : Exit → Act → World → Prop} (hgd : o.guard = none) (s x : Operand) (t : TypeId)
    (ho : o.op = .call { callee := .builtin .append, args := #[s, x], argTypes := #[t, t] })
    (i : TypeInfo) (ht : P.underlying t = some (.slice 22)) (hi : P.info? 22 = some i) (hz : i.zero = some (.slice none 0 0)) (hsize : i.size = 1) (hby : i.bytes = 24)
    (base : Nat) (v : Value) (ls : List (List Nat)) (hs : a.eval s = v) (hown : RowL w base v ls) (ad : Addr) (c : Value) (l : List Nat) (hx : a.eval x = .slice (some ad) 1 1) (hat : At w (some ad) [c]) (hc : Byt w c l) (hcx : l = [] ∨ ∀ g, c.ownBlock = some g → g < base)
    (h63 : ls.length ≤ 1000) (hbase : base ≤ w.heap.size)
    (h : ∀ v' w', RowL w' base v' (ls ++ [l]) → w.grownBy w' v.ownBlock → wpList P ops Q rest (a.put o.dst v') w') : wpList P ops Q (o :: rest) a w := by
  have hge := hown.ge
  obtain ⟨cs, h1, h2⟩ := hown
  have hcl : cs.length = ls.length := by have := h1.1; omega
  have hne : ∀ {d : Value} {p : List Nat}, (p = [] ∨ ∀ g, d.ownBlock = some g → g < base) → (p = [] ∨ ∀ g, d.ownBlock = some g → v.ownBlock ≠ some g) := fun h => h.imp id fun h g hg e => by have := h g hg; have := hge g e; omega
  refine wpList_append_at hgd s x t ho base 22 i (.slice none 0 0) 1 24 ht hi hz hsize hby rfl (by decide) v ls.length cs hs h1 (some ad) 1 1 [c] hx (fun e => by cases e) (Nat.le_refl _) rfl hat (fun u hu => by rw [List.mem_singleton.1 hu]; exact hc.one) (by simp only [maxLen]; omega) (by omega) hbase ?_
  intro v' w' ho hg _
  refine h v' w' ⟨cs ++ [c], by rw [List.length_append, List.length_singleton]; exact ho, fun j hj => ?_⟩ hg
  rw [List.length_append, List.length_singleton] at hj
  by_cases hjl : j < ls.length
  · obtain ⟨d, e, hd, hy⟩ := h2 j hjl
    have e2 : (ls ++ [l]).getD j [] = ls.getD j [] := by simp [List.getD, List.getElem?_append_left hjl]
    rw [e2]
    exact ⟨d, by rw [List.getElem?_append_left (by omega)]; exact e, hd.keptB hg (hne hy), hy⟩
  · have e : j = ls.length := by omega
    subst e
    have e2 : (ls ++ [l]).getD ls.length [] = l := by simp [List.getD]
    rw [e2]
    exact ⟨c, by rw [List.getElem?_append_right (by omega)]; simp [hcl], hc.keptB hg (hne hcx), hcx⟩
theorem takeA_step (l d c r : Nat) (rows : List (List Nat)) (k : Nat) : Y.takeA l d c r rows (k + 1) = Y.takeA l d c r rows k ++ [rows.getD (Y.off d c r (l - 4 + k)) []] := by
  unfold Y.takeA
  rw [List.range_succ, List.map_append]; rfl
theorem takeA_len (l d c r : Nat) (rows : List (List Nat)) (k : Nat) : (Y.takeA l d c r rows k).length = k := by simp [Y.takeA]
theorem SolveP.drew {w w' : World} {n : Nat} {p q : List Nat} {ls : List (List Nat)} {e : Ending} (h : SolveP w n p q ls e w') : SolveP w n p q ls e w'.drew :=
  ⟨h.1.imp (fun ⟨a, v, b, c⟩ => ⟨a, v, b, c.up (belDr (belR _))⟩) id, belDr h.2⟩
attribute [local irreducible] Go.Calls Byt Own Parts RowB OwnD RowL
theorem take_any (l d c r : Nat) (lv : Value) (rows : List (List Nat)) (w : World) (h : Y.okN l d c) (hr : r < 16) (hp : Parts w lv rows) (hlen : rows.length = d) :
    Calls Try.prog 34 #[.agg #[.int .i64 l, .int .i64 d, .int .i64 c], .int .i64 r, lv] w (SolveP w 32 (Y.pOf d c r rows) (Y.qOf l d c r rows) (Y.takeL l d c r rows)) := by
  obtain ⟨j0, hj, hy0, hy1, hy2⟩ := info_parts parts_info
  obtain ⟨hl64, hd64, hc64⟩ := okN_in h
  have HIN := rin_any l d c r (w.alloc (.cells #[.int .i64 l, .int .i64 d, .int .i64 c] 42)) hl64 hd64 hc64
  rw [inB_yes h hr] at HIN
  have HIN := Lib.hid HIN
  have hok := okN_geo h
  have HW : Hid ((Geo.mk l d c).width = ((d - (l - 4) : Nat) : Int)) := by
    show _ = _
    unfold Geo.width
    rw [if_pos hok]
    have := h.1
    dsimp only
    omega
  have HWA := Lib.hid (width_any l d c · hl64 hd64 hc64)
  have HDI := Lib.hid (fun k w hk => disk_any l d c r k w h hr hk)
  have HPA := Lib.hid (parity_any l d c r · h hr)
  have HP := Lib.hid hp
  have HOK := Lib.hid h
  obtain ⟨ad, cd, rfl, hc1, hc2⟩ := hp.shape
  rw [hlen] at HP hc1 ⊢
  have HLEN := Lib.hid hlen
  have hmm : ((d : Int) != (d : Int)) = false := by simp
  obtain ⟨m, hm⟩ : ∃ m, m = d - (l - 4) := ⟨_, rfl⟩
  rw [← hm] at HW
  have HM := Lib.hid hm
  have hd8 : Hid (1 ≤ d ∧ d ≤ 8 ∧ m ≤ 8 ∧ 1 ≤ m ∧ (l - 4) + m = d) := by
    obtain ⟨h1, h2, _⟩ := h
    refine ⟨?_, ?_, ?_, ?_, ?_⟩ <;> omega
  have HL56 : Hid (l = 5 ∨ l = 6) := by have := h.1; show _ ∨ _; omega
  have HK : Hid (∀ X, Below (w.alloc (.cells #[.int .i64 l, .int .i64 d, .int .i64 c] 42)).heap.size (w.alloc (.cells #[.int .i64 l, .int .i64 d, .int .i64 c] 42)) X → X.cell? ⟨w.heap.size, 0, none⟩ = some (.int .i64 l) ∧ X.cell? ⟨w.heap.size, 1, none⟩ = some (.int .i64 d) ∧ X.cell? ⟨w.heap.size, 2, none⟩ = some (.int .i64 c)) :=
    fun X hX => ⟨box_up hX 0 rfl, box_up hX 1 rfl, box_up hX 2 rfl⟩
  clear hl64 hd64 hc64 hok h hp hr hm hlen
  go_enter Try.func34, Try.ntmps34
  go_wp2_with fail
  refine Calls.mono HIN.out ?_
  rintro e w1 ⟨rfl, b1⟩
  obtain ⟨c0, c1, c2⟩ := HK.out _ b1
  go_wp2_with fail
  refine Calls.mono (HWA.out _) ?_
  rw [HW.out]
  rintro e w2 ⟨rfl, b2⟩
  have B2 := belT b1 b2
  clear c0 c1 c2 b1 b2
  have hws : w.heap.size ≤ (w.alloc (.cells #[.int .i64 l, .int .i64 d, .int .i64 c] 42)).heap.size := by simp
  go_wp2_with fail
  go_loopw [8, 25] (fun v i X => ∃ k : Nat, k ≤ m ∧ i = .int .i64 k ∧ Hid (RowL X (w.alloc (.cells #[.int .i64 l, .int .i64 d, .int .i64 c] 42)).heap.size v (Y.takeA l d c r rows k)) ∧ Below (w.alloc (.cells #[.int .i64 l, .int .i64 d, .int .i64 c] 42)).heap.size (w.alloc (.cells #[.int .i64 l, .int .i64 d, .int .i64 c] 42)) X) (fun _ i _ => m - (intOf i).toNat)
  case atStart => exact ⟨0, Nat.zero_le _, rfl, Lib.hid (RowL.nil _ _), B2⟩
  case round =>
    obtain ⟨k, hk, rfl, hO, BX⟩ := hrel
    by_cases hlt : k < m
    · have HLT := Lib.hid hlt
      have hkm : (k : Int) < (m : Int) := by omega
      have hk0 : (0 : Int) ≤ (k : Int) := by omega
      have hk1' : IntKind.i64.wrap ((k : Int) + 1) = ((k + 1 : Nat) : Int) := by have := hd8.out; rw [IntKind.wrap_i64]; omega
      obtain ⟨c0, c1, c2⟩ := HK.out _ BX
      clear hlt
      go_wp2_with fail
      refine Calls.mono (HDI.out k _ (by rw [← HM.out]; exact HLT.out)) ?_
      rintro e w5 ⟨rfl, b5⟩
      obtain ⟨o, ho⟩ : ∃ o, o = Y.off d c r (l - 4 + k) := ⟨_, rfl⟩
      rw [← ho]
      have hod : o < d := by rw [ho]; exact Y.off_lt (by have := hd8.out; have := HLT.out; omega)
      have HO := Lib.hid ho
      have hod' : (o : Int) < (d : Int) := by omega
      have ho0 : (0 : Int) ≤ (o : Int) := by omega
      have B5 := belT BX b5
      have BW := belT (belA1 (belR w)) B5
      obtain ⟨bb, ob, cc, p, rfl, hcc, hp, hy⟩ := HP.out.getUp BW (k := o) (by rw [HLEN.out]; exact hod)
      have hylt := Lib.hid (fun h => hy.block_lt (b := p) h)
      obtain ⟨ac, kc, rfl, _, _⟩ := hy.shape
      have hy5 := Lib.hid (hy.up BW)
      have e1 : Hid (rows.getD o [] = p) := by show _ = _; rw [List.getD, hp.out]; rfl
      clear hod c0 c1 c2 hy ho
      have hsz5 : w.heap.size ≤ w5.heap.size := BW.size
      have HA2 := Lib.hid (show (Y.takeA l d c r rows k).length ≤ 1000 by rw [takeA_len]; have := hd8.out; have := HLT.out; omega)
      go_wp2_with (at_builtin; go_loud (refine wpList_append_rowL rfl (.tmp 28) (.tmp 36) 25 rfl j0 Try.underlying25 hj hy0 hy1 hy2 (w.alloc (.cells #[.int .i64 l, .int .i64 d, .int .i64 c] 42)).heap.size _ _ rfl ((hO.out.up b5).up (belA1 (belR _))) _ _ p rfl (At.one _ _ _ (by first | rfl | simp)) (hy5.out.up (belA1 (belR _))) (by rcases List.eq_nil_or_concat p with e | ⟨_, _, e⟩; exact .inl e; exact .inr (fun g hg => Nat.lt_of_lt_of_le (hylt.out (by rw [e]; simp) g hg) hws)) HA2.out (by have := B5.size; simp at this; simp; omega) ?_); intro v6 w6 O6 g6)
      have B6 : Below (w.alloc (.cells #[.int .i64 l, .int .i64 d, .int .i64 c] 42)).heap.size (w.alloc (.cells #[.int .i64 l, .int .i64 d, .int .i64 c] 42)) w6 := belG (belA1 B5) g6 (fun g hg => hO.out.ge g hg)
      go_roundw
      case rel => exact ⟨k + 1, HLT.out, by go_num, Lib.hid (by rw [takeA_step, ← HO.out, e1.out]; exact O6), B6⟩
      case measure => have := HLT.out; simp [intOf]; omega
    · have e1 : k = m := by omega
      have hkB : decide ((k : Int) < (m : Int)) = false := by rw [decide_eq_false_iff_not]; omega
      have hkP : ((k : Int) < (m : Int)) = False := by rw [eq_iff_iff]; exact ⟨fun h => by omega, fun h => h.elim⟩
      obtain ⟨c0, c1, c2⟩ := HK.out _ BX
      have hT : Y.takeA l d c r rows k = Y.takeL l d c r rows := by rw [e1, HM.out]; rfl
      rw [hT] at hO
      clear e1 hlt hk hT
      go_wp2_with fail
      refine Calls.mono (HPA.out _) ?_
      rintro e w5 ⟨rfl, b5⟩
      obtain ⟨o, ho⟩ : ∃ o, o = Y.off d c r 0 := ⟨_, rfl⟩
      rw [← ho]
      have hod : o < d := by rw [ho]; exact Y.off_lt (by have := hd8.out; omega)
      have HO := Lib.hid ho
      have hod' : (o : Int) < (d : Int) := by omega
      have ho0 : (0 : Int) ≤ (o : Int) := by omega
      have B5 := belT BX b5
      have BW := belT (belA1 (belR w)) B5
      obtain ⟨bb, ob, cc, p, rfl, hcc, hp, hy⟩ := HP.out.getUp BW (k := o) (by rw [HLEN.out]; exact hod)
      obtain ⟨ac, kc, rfl, _, _⟩ := hy.shape
      have hy5 := Lib.hid (hy.up BW)
      have e1 : Hid (Y.pOf d c r rows = p) := by show _ = _; unfold Y.pOf; rw [← HO.out, List.getD, hp.out]; rfl
      obtain ⟨pn, hpn⟩ : ∃ pn, pn = p.length := ⟨_, rfl⟩
      rw [← hpn] at hcc hy5
      have hbb : bb < w5.heap.size := block_lt_of_cell hcc
      have hO5 := Lib.hid (hO.out.up b5).parts
      have HTL : Hid ((Y.takeL l d c r rows).length ≤ 1000) := Lib.hid (by rw [Y.takeL_len]; have := hd8.out; omega)
      clear ho c0 c1 c2 hod hy hpn
      rcases HL56.out with h5 | h6
      · have hq : qd l d c r = -1 := by unfold qd; rw [if_pos h5]
        rw [hq]
        have HQ : Hid (Y.qOf l d c r rows = []) := by show _ = _; unfold Y.qOf; rw [if_neg (by omega)]
        clear hq h5
        go_wp2_with fail
        refine Calls.mono (solve_any 32 _ _ _ p [] (Y.takeL l d c r rows) _ hy5.out (Byt.nil _) hO5.out (by decide) HTL.out) ?_
        rintro e w6 ⟨hs, b6⟩
        rcases hs with ⟨hs1, v', rfl, RB⟩ | ⟨hs1, rfl⟩
        · go_wp2
          go_ret2
          refine ⟨.inl ⟨by rw [e1.out, HQ.out]; exact hs1, _, rfl, by rw [e1.out, HQ.out]; exact RB.baseLe BW.size⟩, belT BW b6⟩
        · go_wp2
          go_ret2
          exact ⟨.inr ⟨by rw [e1.out, HQ.out]; exact hs1, rfl⟩, belT BW b6⟩
      · have hq : qd l d c r = ((Y.off d c r 1 : Nat) : Int) := by unfold qd; rw [if_neg (by omega)]
        rw [hq]
        obtain ⟨o1, ho1⟩ : ∃ o1, o1 = Y.off d c r 1 := ⟨_, rfl⟩
        rw [← ho1]
        have hod1 : o1 < d := by rw [ho1]; exact Y.off_lt (by have := hd8.out; omega)
        have hod1' : (o1 : Int) < (d : Int) := by omega
        have ho10 : (0 : Int) ≤ (o1 : Int) := by omega
        obtain ⟨bb2, ob2, cc2, q, ebb, hcc2, hq2, hyq⟩ := HP.out.getUp BW (k := o1) (by rw [HLEN.out]; exact hod1)
        cases ebb
        obtain ⟨aq, kq, rfl, _, _⟩ := hyq.shape
        have hyq5 := Lib.hid (hyq.up BW)
        have e2 : Hid (Y.qOf l d c r rows = q) := by show _ = _; unfold Y.qOf; rw [if_pos h6, ← ho1, List.getD, hq2.out]; rfl
        obtain ⟨qn, hqn⟩ : ∃ qn, qn = q.length := ⟨_, rfl⟩
        rw [← hqn] at hcc2 hyq5
        have HKK : Hid (∀ X, Below w5.heap.size w5 X → X.cell? ⟨bb, ob + o, none⟩ = some (.slice ac pn kc) ∧ X.cell? ⟨bb, ob + o1, none⟩ = some (.slice aq qn kq)) := fun X hX => by
          rw [hX.cell (p := ⟨bb, ob + o, none⟩) hbb, hX.cell (p := ⟨bb, ob + o1, none⟩) hbb]
          exact ⟨hcc, hcc2⟩
        clear hq h6 ho1 hod1 hyq hqn hcc hcc2
        go_wp2_with fail
        refine wp_region_held_drew (S := fun X => X.cell? ⟨bb, ob + o, none⟩ = some (.slice ac pn kc) ∧ X.cell? ⟨bb, ob + o1, none⟩ = some (.slice aq qn kq)) (by kernel_rfl) (by exact HKK.out _ (by iterate 8 try (first | assumption | exact belR _ | apply belDr | apply belAlloc))) (fun hHeld => ?_)
        refine wpAnyH_take (i := 0) (oi := _) (v := ?_) rfl (by kernel_rfl) (by kernel_rfl) (by kernel_rfl) (fun _ _ _ h => h) (Or.inl ⟨by rfl, ?_⟩) (by assumption) ?_
        rotate_left
        · intro w hSw
          (try dsimp only at hSw)
          go_simp
          try with_reducible rfl
        try simp only [Act.put, List.getElem_toArray, List.getElem_cons_zero, List.getElem_cons_succ, List.setIfInBounds_toArray, List.set_cons_zero, List.set_cons_succ]
        refine wpAnyH_take (i := 1) (oi := _) (v := ?_) rfl (by kernel_rfl) (by kernel_rfl) (by kernel_rfl) (fun _ _ _ h => h) (Or.inl ⟨by rfl, ?_⟩) (by assumption) ?_
        rotate_left
        · intro w hSw
          (try dsimp only at hSw)
          go_simp
          try with_reducible rfl
        try simp only [Act.put, List.getElem_toArray, List.getElem_cons_zero, List.getElem_cons_succ, List.setIfInBounds_toArray, List.set_cons_zero, List.set_cons_succ]
        refine wpAnyH_take (i := 4) (oi := _) (v := ?_) rfl (by kernel_rfl) (by kernel_rfl) (by kernel_rfl) (fun _ _ _ h => h) (Or.inl ⟨by rfl, ?_⟩) (by assumption) ?_
        rotate_left
        · intro w hSw
          (try dsimp only at hSw)
          go_simp
          try with_reducible rfl
        try simp only [Act.put, List.getElem_toArray, List.getElem_cons_zero, List.getElem_cons_succ, List.setIfInBounds_toArray, List.set_cons_zero, List.set_cons_succ]
        refine wpAnyH_take (i := 5) (oi := _) (v := ?_) rfl (by kernel_rfl) (by kernel_rfl) (by kernel_rfl) (fun _ _ _ h => h) (Or.inl ⟨by rfl, ?_⟩) (by assumption) ?_
        rotate_left
        · intro w hSw
          (try dsimp only at hSw)
          go_simp
          try with_reducible rfl
        try simp only [Act.put, List.getElem_toArray, List.getElem_cons_zero, List.getElem_cons_succ, List.setIfInBounds_toArray, List.set_cons_zero, List.set_cons_succ]
        refine wpAnyH_take (i := 8) (oi := _) (v := ?_) rfl (by kernel_rfl) (by kernel_rfl) (by kernel_rfl) (fun _ _ _ h => h) (Or.inl ⟨by rfl, ?_⟩) (by assumption) ?_
        rotate_left
        · intro w hSw
          (try dsimp only at hSw)
          go_simp
          try with_reducible rfl
        try simp only [Act.put, List.getElem_toArray, List.getElem_cons_zero, List.getElem_cons_succ, List.setIfInBounds_toArray, List.set_cons_zero, List.set_cons_succ]
        refine wpAnyH_take (i := 2) (oi := _) (v := ?_) rfl (by kernel_rfl) (by kernel_rfl) (by kernel_rfl) (fun _ _ _ h => h) (Or.inl ⟨by rfl, ?_⟩) (by assumption) ?_
        rotate_left
        · intro w hSw
          (try dsimp only at hSw)
          go_simp
          try with_reducible rfl
        try simp only [Act.put, List.getElem_toArray, List.getElem_cons_zero, List.getElem_cons_succ, List.setIfInBounds_toArray, List.set_cons_zero, List.set_cons_succ]
        refine wpAnyH_take (i := 6) (oi := _) (v := ?_) rfl (by kernel_rfl) (by kernel_rfl) (by kernel_rfl) (fun _ _ _ h => h) (Or.inl ⟨by rfl, ?_⟩) (by assumption) ?_
        rotate_left
        · intro w hSw
          (try dsimp only at hSw)
          go_simp
          try with_reducible rfl
        try simp only [Act.put, List.getElem_toArray, List.getElem_cons_zero, List.getElem_cons_succ, List.setIfInBounds_toArray, List.set_cons_zero, List.set_cons_succ]
        refine wpAnyH_take (i := 3) (oi := _) (v := ?_) rfl (by kernel_rfl) (by kernel_rfl) (by kernel_rfl) (fun _ _ _ h => h) (Or.inl ⟨by rfl, ?_⟩) (by assumption) ?_
        rotate_left
        · intro w hSw
          (try dsimp only at hSw)
          go_simp
          try with_reducible rfl
        try simp only [Act.put, List.getElem_toArray, List.getElem_cons_zero, List.getElem_cons_succ, List.setIfInBounds_toArray, List.set_cons_zero, List.set_cons_succ]
        refine wpAnyH_take (i := 7) (oi := _) (v := ?_) rfl (by kernel_rfl) (by kernel_rfl) (by kernel_rfl) (fun _ _ _ h => h) (Or.inl ⟨by rfl, ?_⟩) (by assumption) ?_
        rotate_left
        · intro w hSw
          (try dsimp only at hSw)
          go_simp
          try with_reducible rfl
        try simp only [Act.put, List.getElem_toArray, List.getElem_cons_zero, List.getElem_cons_succ, List.setIfInBounds_toArray, List.set_cons_zero, List.set_cons_succ]
        refine wpAnyH_ready (rs := [9]) (by kernel_rfl) (by simp) ?_
        refine AllReadyH.cons (o := _) rfl (fun K hK => ?_) AllReadyH.nil
        go_simp
        refine Calls.mono (solve_any 32 _ _ _ p q (Y.takeL l d c r rows) _ (hy5.out.up (by iterate 8 try (first | assumption | exact belR _ | apply belDr | apply belAlloc))) (hyq5.out.up (by iterate 8 try (first | assumption | exact belR _ | apply belDr | apply belAlloc))) (hO5.out.up (by iterate 8 try (first | assumption | exact belR _ | apply belDr | apply belAlloc))) (by decide) HTL.out) ?_
        rintro e w6 ⟨hs, b6⟩
        have B6 : Below w5.heap.size w5 w6 := belT (by iterate 8 try (first | assumption | exact belR _ | apply belDr | apply belAlloc)) b6
        obtain ⟨v6, ok6, rfl, hs6⟩ : ∃ v' ok, e = .returned (.tuple #[v', .bool ok]) ∧ SolveP w 32 p q (Y.takeL l d c r rows) (.returned (.tuple #[v', .bool ok])) w6 := by
          rcases hs with ⟨hs1, v', rfl, RB⟩ | ⟨hs1, rfl⟩
          · exact ⟨_, _, rfl, .inl ⟨hs1, _, rfl, RB.baseLe (belT BW (by iterate 8 try (first | assumption | exact belR _ | apply belDr | apply belAlloc))).size⟩, belT BW B6⟩
          · exact ⟨_, _, rfl, .inr ⟨hs1, rfl⟩, belT BW B6⟩
        try go_simp
        refine hK.out _ _ (by exact HKK.out _ (by iterate 8 try (first | assumption | exact belR _ | apply belDr | apply belAlloc))) (fun hHeld => ?_)
        clear hK K
        try simp only [Act.put, List.getElem_toArray, List.getElem_cons_zero, List.getElem_cons_succ, List.setIfInBounds_toArray, List.set_cons_zero, List.set_cons_succ]
        refine wpAnyH_take (i := 10) (oi := _) (v := ?_) rfl (by kernel_rfl) (by kernel_rfl) (by kernel_rfl) (fun _ _ _ h => h) (Or.inl ⟨by rfl, ?_⟩) (by assumption) ?_
        rotate_left
        · intro w hSw
          (try dsimp only at hSw)
          go_simp
          try with_reducible rfl
        try simp only [Act.put, List.getElem_toArray, List.getElem_cons_zero, List.getElem_cons_succ, List.setIfInBounds_toArray, List.set_cons_zero, List.set_cons_succ]
        refine wpAnyH_take (i := 11) (oi := _) (v := ?_) rfl (by kernel_rfl) (by kernel_rfl) (by kernel_rfl) (fun _ _ _ h => h) (Or.inl ⟨by rfl, ?_⟩) (by assumption) ?_
        rotate_left
        · intro w hSw
          (try dsimp only at hSw)
          go_simp
          try with_reducible rfl
        try simp only [Act.put, List.getElem_toArray, List.getElem_cons_zero, List.getElem_cons_succ, List.setIfInBounds_toArray, List.set_cons_zero, List.set_cons_succ]
        refine wpAnyH_take (i := 12) (oi := _) (v := ?_) rfl (by kernel_rfl) (by kernel_rfl) (by kernel_rfl) (fun _ _ _ h => h) (Or.inl ⟨by rfl, ?_⟩) (by assumption) ?_
        rotate_left
        · intro w hSw
          (try dsimp only at hSw)
          go_simp
          try with_reducible rfl
        try simp only [Act.put, List.getElem_toArray, List.getElem_cons_zero, List.getElem_cons_succ, List.setIfInBounds_toArray, List.set_cons_zero, List.set_cons_succ]
        refine wpAnyH_take (i := 13) (oi := _) (v := ?_) rfl (by kernel_rfl) (by kernel_rfl) (by kernel_rfl) (fun _ _ _ h => h) (Or.inl ⟨by rfl, ?_⟩) (by assumption) ?_
        rotate_left
        · intro w hSw
          (try dsimp only at hSw)
          go_simp
          try with_reducible rfl
        try simp only [Act.put, List.getElem_toArray, List.getElem_cons_zero, List.getElem_cons_succ, List.setIfInBounds_toArray, List.set_cons_zero, List.set_cons_succ]
        refine wpAnyH_done (by kernel_rfl) ?_ _
        go_wp2
        go_ret2
        rw [e1.out, e2.out]
        first | exact hs6 | exact hs6.drew
theorem len_bne {a b : Nat} (h : a ≠ b) : ((a : Int) != (b : Int)) = true := by rw [bne_iff_ne]; omega
/-- sectors too few, too many -/
theorem take_no (l d c r : Nat) (lv : Value) (rows : List (List Nat)) (w : World) (h : Y.okN l d c) (hr : r < 16) (hp : Parts w lv rows) (hlen : rows.length ≠ d) :
    Calls Try.prog 34 #[.agg #[.int .i64 l, .int .i64 d, .int .i64 c], .int .i64 r, lv] w fun e w' => e = .returned (.tuple #[.slice none 0 0, .bool false]) ∧ Below w.heap.size w w' := by
  obtain ⟨hl64, hd64, hc64⟩ := okN_in h
  have HIN := rin_any l d c r (w.alloc (.cells #[.int .i64 l, .int .i64 d, .int .i64 c] 42)) hl64 hd64 hc64
  rw [inB_yes h hr] at HIN
  have HIN := Lib.hid HIN
  obtain ⟨ad, cd, rfl, hc1, hc2⟩ := hp.shape
  have hne := len_bne hlen
  obtain ⟨m, hm⟩ : ∃ m, m = rows.length := ⟨_, rfl⟩
  rw [← hm] at hne ⊢
  clear hl64 hd64 hc64 h hp hr hm hlen hc1
  go_enter Try.func34, Try.ntmps34
  go_wp2_with fail
  refine Calls.mono HIN.out ?_
  rintro e w1 ⟨rfl, b1⟩
  have c0 := box_up b1 0 rfl
  have c1 := box_up b1 1 rfl
  have c2 := box_up b1 2 rfl
  go_wp2
  go_ret2
  exact ⟨rfl, belT (belA1 (belR _)) b1⟩
theorem solveL_len' (n : Nat) (p q : List Nat) (ls : List (List Nat)) : (Y.solveL n p q ls).length = ls.length := solve_len n p q ls
theorem right_any (l d c r : Nat) (lv : Value) (rows : List (List Nat)) (w : World) (h : Y.okN l d c) (hr : r < 16) (hp : Parts w lv rows) (hlen : rows.length = d) :
    Calls Try.prog 33 #[.agg #[.int .i64 l, .int .i64 d, .int .i64 c], .int .i64 r, lv] w fun e w' => e = .returned (.bool (Y.rightB l d c r rows)) ∧ Below w.heap.size w w' := by
  have HP := Lib.hid hp
  have HTA := Lib.hid (fun w' hw' => take_any l d c r lv rows w' h hr hw' hlen)
  have HFI := Lib.hid (fun dv data w' h1 h2 h3 => fill_any l d c r dv data w' h hr h1 h2 h3)
  have HK : Hid (∀ X, Below (w.alloc (.cells #[.int .i64 l, .int .i64 d, .int .i64 c] 42)).heap.size (w.alloc (.cells #[.int .i64 l, .int .i64 d, .int .i64 c] 42)) X → X.cell? ⟨w.heap.size, 0, none⟩ = some (.int .i64 l) ∧ X.cell? ⟨w.heap.size, 1, none⟩ = some (.int .i64 d) ∧ X.cell? ⟨w.heap.size, 2, none⟩ = some (.int .i64 c)) :=
    fun X hX => ⟨box_up hX 0 rfl, box_up hX 1 rfl, box_up hX 2 rfl⟩
  clear hp
  go_enter Try.func33, Try.ntmps33
  go_wp2_with fail
  refine Calls.mono (HTA.out _ (HP.out.up (belA1 (belR _)))) ?_
  rintro e w1 ⟨hs, b1⟩
  rcases hs with ⟨hs1, v', rfl, RB⟩ | ⟨hs1, rfl⟩
  · obtain ⟨c0, c1, c2⟩ := HK.out _ b1
    have h32 := Y.solve_all_len hs1
    have HS := Lib.hid hs1
    have hsl : (Y.solveL 32 (Y.pOf d c r rows) (Y.qOf l d c r rows) (Y.takeL l d c r rows)).length = d - (l - 4) := by rw [solve_len, Y.takeL_len]
    obtain ⟨D, hD⟩ : ∃ D, D = Y.solveL 32 (Y.pOf d c r rows) (Y.qOf l d c r rows) (Y.takeL l d c r rows) := ⟨_, rfl⟩
    have HD := Lib.hid hD
    rw [← hD] at RB h32 hsl
    have HPD := Lib.hid RB.parts
    have H32 := Lib.hid h32
    have HSL := Lib.hid hsl
    obtain ⟨av, kv, rfl, _, _⟩ := RB.parts.shape
    clear RB h32 hsl hD hs1
    go_wp2_with fail
    refine Calls.mono (HFI.out _ D _ HPD.out HSL.out H32.out) ?_
    rintro e w2 ⟨v2, rfl, O2, b2⟩
    obtain ⟨a2, k2, rfl, _, _⟩ := O2.parts.shape
    have HO2 := Lib.hid O2.parts
    have B2 := belT b1 b2
    clear O2 c0 c1 c2
    go_wp2_with fail
    refine Calls.mono (eqf_any _ _ _ rows _ HO2.out (HP.out.up (belT (belA1 (belR _)) B2))) ?_
    rintro e w3 ⟨rfl, d3⟩
    go_wp2
    go_ret
    refine ⟨ret_bool ?_, belT (belA1 (belR _)) (belT B2 (d3.below _))⟩
    unfold Y.rightB
    rw [HS.out, ← HD.out, Bool.true_and]
  · have HS := Lib.hid hs1
    clear hs1
    go_wp2
    go_ret
    refine ⟨ret_bool ?_, belT (belA1 (belR _)) b1⟩
    unfold Y.rightB
    rw [HS.out]
    rfl
theorem right_no (l d c r : Nat) (lv : Value) (rows : List (List Nat)) (w : World) (h : Y.okN l d c) (hr : r < 16) (hp : Parts w lv rows) (hlen : rows.length ≠ d) :
    Calls Try.prog 33 #[.agg #[.int .i64 l, .int .i64 d, .int .i64 c], .int .i64 r, lv] w fun e w' => e = .returned (.bool false) ∧ Below w.heap.size w w' := by
  have HTA := take_no l d c r lv rows (w.alloc (.cells #[.int .i64 l, .int .i64 d, .int .i64 c] 42)) h hr (hp.up (belA1 (belR _))) hlen
  clear hp
  go_enter Try.func33, Try.ntmps33
  go_wp2_with fail
  refine Calls.mono HTA ?_
  rintro e w1 ⟨rfl, b1⟩
  go_wp2
  go_ret
  exact ⟨rfl, belT (belA1 (belR _)) b1⟩
/-- a Fill that can't be: no such row; too few data, too many; one that is no sector -/
theorem fill_no (l d c : Nat) (r : Int) (dv : Value) (data : List (List Nat)) (w : World) (h : Y.okN l d c) (hp : Parts w dv data) (hno : ¬ (0 ≤ r ∧ r < 16) ∨ data.length ≠ d - (l - 4) ∨ data.any badB = true) :
    Calls Try.prog 24 #[.agg #[.int .i64 l, .int .i64 d, .int .i64 c], .int .i64 r, dv] w fun e w' => e = .returned (.tuple #[.slice none 0 0, .bool false]) ∧ Below w.heap.size w w' := by
  obtain ⟨hl64, hd64, hc64⟩ := okN_in h
  have hok := okN_geo h
  have HW : Hid ((Geo.mk l d c).width = ((d - (l - 4) : Nat) : Int)) := by
    show _ = _
    unfold Geo.width
    rw [if_pos hok]
    have := h.1
    dsimp only
    omega
  have HWA := Lib.hid (width_any l d c · hl64 hd64 hc64)
  have HIN := Lib.hid (rin_any l d c r (w.alloc (.cells #[.int .i64 l, .int .i64 d, .int .i64 c] 42)) hl64 hd64 hc64)
  have HP := Lib.hid hp
  obtain ⟨ad, cd, rfl, hc1, hc2⟩ := hp.shape
  obtain ⟨m, hm⟩ : ∃ m, m = data.length := ⟨_, rfl⟩
  rw [← hm] at HP hc1 ⊢
  have HM := Lib.hid hm
  have HK : Hid (∀ X, Below (w.alloc (.cells #[.int .i64 l, .int .i64 d, .int .i64 c] 42)).heap.size (w.alloc (.cells #[.int .i64 l, .int .i64 d, .int .i64 c] 42)) X → X.cell? ⟨w.heap.size, 0, none⟩ = some (.int .i64 l) ∧ X.cell? ⟨w.heap.size, 1, none⟩ = some (.int .i64 d) ∧ X.cell? ⟨w.heap.size, 2, none⟩ = some (.int .i64 c)) :=
    fun X hX => ⟨box_up hX 0 rfl, box_up hX 1 rfl, box_up hX 2 rfl⟩
  have HNO := Lib.hid hno
  have HOK := Lib.hid hok
  clear hl64 hd64 hc64 hok hp hm hno hc1
  go_enter Try.func24, Try.ntmps24
  go_wp2_with fail
  refine Calls.mono HIN.out ?_
  by_cases hin : 0 ≤ r ∧ r < 16
  · rw [show inB l d c r = true by unfold inB; rw [HOK.out]; exact decide_eq_true hin]
    rintro e w1 ⟨rfl, b1⟩
    obtain ⟨c0, c1, c2⟩ := HK.out _ b1
    have HIN2 := Lib.hid hin
    clear hin
    go_wp2_with fail
    refine Calls.mono (HWA.out _) ?_
    rw [HW.out]
    rintro e w2 ⟨rfl, b2⟩
    have B2 := belT b1 b2
    clear c0 c1 c2
    obtain ⟨v, hv⟩ : ∃ v, v = d - (l - 4) := ⟨_, rfl⟩
    rw [← hv]
    have HV := Lib.hid hv
    clear hv
    by_cases hmv : m = v
    · have hmm : ((m : Int) != (v : Int)) = false := by rw [hmv]; simp
      have hbad : data.any badB = true := by
        rcases HNO.out with h | h | h
        · exact absurd HIN2.out h
        · exact absurd (by rw [← HM.out, hmv, HV.out]) h
        · exact h
      have HBAD := Lib.hid hbad
      clear hbad hmv
      go_wp2_with fail
      refine Calls.mono (sectors_any _ data _ (HP.out.up (belT (belA1 (belR _)) B2))) ?_
      rw [HBAD.out]
      rintro e w3 ⟨rfl, b3⟩
      go_wp2
      go_ret2
      exact ⟨rfl, belT (belA1 (belR _)) (belT B2 b3)⟩
    · have hmm : ((m : Int) != (v : Int)) = true := by rw [bne_iff_ne]; omega
      clear hmv
      go_wp2
      go_ret2
      exact ⟨rfl, belT (belA1 (belR _)) B2⟩
  · rw [show inB l d c r = false by unfold inB; rw [HOK.out]; exact decide_eq_false hin]
    rintro e w1 ⟨rfl, b1⟩
    clear hin
    go_wp2
    go_ret2
    exact ⟨rfl, belT (belA1 (belR _)) b1⟩
end Go.Proofs.Ytknodcaknopcnaa
