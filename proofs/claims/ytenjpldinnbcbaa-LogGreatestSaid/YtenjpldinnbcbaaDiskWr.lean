/- The walk of disk's Write. -/
import Derived.Test.YtenjpldinnbcbaaDiskPut
import Derived.Test.YtenjpldinnbcbaaDiskCl
import Derived.Deep.RegionHeld3
import Derived.Deep.DrawnRows
import Derived.Great.BuildSlice
namespace Go.Proofs.Ytenjpldinnbcbaa
open Go.RowKit
set_option linter.unusedVariables false
set_option linter.unusedSimpArgs false
set_option maxRecDepth 100000
set_option maxHeartbeats 1000000
attribute [local go_sem ↓] Go.wp_at_zero Go.wp_at_succ

theorem write_no (w : World) (base g : Nat) (pv : Value) (d : D.Dk) (at' : Int) (bv : Value) (x : List Nat) (h : IsDisk w base g pv d) (hx : Byt w bv x) (hn : putI d at' x ≠ 0) :
    Calls Try.prog 82 #[.pointer (some ⟨g, 0, none⟩), .int .i64 at', bv] w fun e w' => e = .returned (.int .i64 (putI d at' x)) ∧ Below w.heap.size w w' := by
  obtain ⟨hz82, hi82⟩ := zero_of_info write_info
  obtain ⟨Z, hZ⟩ : ∃ Z, Z = (wcells (0, List.replicate 32 0)).toArray := ⟨_, rfl⟩
  have HZS : Hid (Z.size = 33) := by show Z.size = 33; rw [hZ]; rfl
  rw [← hZ] at hz82
  clear hZ
  have HI := Lib.hid hi82
  obtain ⟨m, hm⟩ : ∃ m, m = putI d at' x := ⟨_, rfl⟩
  have hc := put_no w base g pv d at' bv x h hx hn
  rw [← hm] at hc hn ⊢
  have hb : (m == 0) = false := by rw [beq_eq_false_iff_ne]; exact hn
  have HC := Lib.hid hc
  clear hi82 hm hc hn h hx
  go_enter Try.func82, Try.ntmps82
  go_wp2_with fail
  refine Calls.mono HC.out ?_
  rintro e w1 ⟨cs, rfl, hcl, hc1, hbel⟩
  have HCS : Hid (cs.toArray.size = 33) := by show cs.toArray.size = 33; rw [List.size_toArray]; exact hcl
  have HC1 := Lib.hid hc1
  have HCL := Lib.hid hcl
  clear hc1 hcl
  go_wp2_with (first
    | (refine wpList_store_new rfl 141 _ _ rfl w1.heap.size w1 rfl Z cs.toArray rfl rfl rfl (by rw [HCS.out]; exact HI.out) (by rw [HZS.out, HCS.out]) (all_oneCell_toArray HC1.out) ?_)
    | fail)
  go_ret
  exact ⟨rfl, belA1 hbel⟩
theorem pcells_one1 (v : Nat × List Nat) : pcells [v] = wcells v := by unfold pcells; simp
theorem wp_buildSlice_one {P : Program} {o : Oper} {a : Act} {w : World} {K : Act → World → Prop} {Q : Exit → Act → World → Prop} (t e : TypeId) (x : Operand) (ho : o.op = .buildSlice t 1 #[(0, x)]) (cs : List Value) (n : Nat)
    (hx : a.eval x = .agg cs.toArray) (hn : cs.length = n) (h0 : 0 < n) (h1 : n < 1000) (ie : TypeInfo) (z : Value) (hu : P.underlying t = some (.slice e)) (hie : P.info? e = some ie) (hz : ie.zero = some z) (hs : ie.size = n)
    (h : K (a.put o.dst (.slice (some ⟨w.heap.size, 0, none⟩) 1 1)) (w.alloc (.cells cs.toArray e))) : o.wp P a w K Q := by
  refine wp_buildSlice t e 1 _ ho cs.toArray ie z hu hie hz (by omega) (by omega) ?_ h
  have hf := Great.fill_whole (s := n) h0 [Value.agg cs.toArray] ((Array.range (1 * ie.size)).map (z.cells[· % z.cells.size]!)) (fun v hv => by rw [List.mem_singleton.1 hv]; simpa [Value.cells] using hn) (by simp [hs])
  have e1 : ((#[(0, x)] : Array (Nat × Operand)).map fun (i, x) => (i, a.eval x)).toList = (([Value.agg cs.toArray].zipIdx 0).map fun x => (x.2, x.1)) := by simp [hx]
  rw [e1, hs] at *
  rw [hf]
  simp [Value.cells]
theorem news_at {W : World} {cs : List Value} {X : Array Value} {t : TypeId} {b : Nat} (hX : X.toList = cs) (hb : b = W.heap.size) : ∀ j u, cs[j]? = some u → (W.alloc (.cells X t)).cell? ((⟨b, 0, none⟩ : Addr).add j) = some u := by
  intro j u hu
  subst hb
  rw [Addr.add_mid, Nat.zero_add, cell_of_row _ _ j _ _ _ (heap_alloc_new W _)]
  rw [← hX] at hu
  simpa using hu
/-- append onto what is owned: where the row lies that comes back -/
theorem append_place {P : Program} {w : World} (base : Nat) (t ty e : TypeId) (i : TypeInfo) (z : Value) (size bytes : Nat) (ht : P.underlying t = some (.slice e)) (hi : P.info? e = some i) (hz : i.zero = some z)
    (hsize : i.size = size) (hby : i.bytes = bytes) (hzs : z.cells.size = size) (hsz : 0 < size)
    (v : Value) (n : Nat) (xs : List Value) (hown : w.ownsRow base e size v n xs)
    (a : Addr) (m c : Nat) (news : List Value) (hl : news.length = m * size) (hnews : ∀ j u, news[j]? = some u → w.cell? (a.add j) = some u) (h1 : ∀ u ∈ news, u.oneCell' = true)
    (h63 : n + m ≤ maxLen) (hbytes : (n + m) * bytes ≤ 140737488355328) {v' : Value} {w' : World}
    (hr : (Builtin.append_ #[t, t] ty #[v, .slice (some a) m c]).run P w = .ok v' w') : ∀ b, v'.ownBlock = some b → v.ownBlock = some b ∨ w.heap.size ≤ b := by
  intro b hb
  rcases hown.2 with ⟨rfl, rfl⟩ | ⟨g, cap, cur, rfl, hbg, hg, hnc, hcm, hcs, htake⟩
  · have hx : xs = [] := List.eq_nil_of_length_eq_zero (by simpa using hown.1)
    subst hx
    obtain ⟨v2, w2, hr2, h2, _⟩ := run_append_own (P := P) w w.heap.size t ty e i z size bytes ht hi hz hsize hby hzs hsz (.slice none 0 0) 0 [] (World.ownsRow_nil _ _ _ _) a m c news hl hnews h1 h63 hbytes (Nat.le_refl _)
    rw [hr] at hr2
    cases hr2
    exact .inr (h2.lt b hb).1
  · subst hsize
    subst hby
    have hsmall : n + m ≤ 9223372036854775807 := by simp only [maxLen] at h63; omega
    by_cases hroom : n + m ≤ cap
    · have hfit : n * i.size + news.length ≤ cur.size := by rw [hl, hcs, ← Nat.add_mul]; exact Nat.mul_le_mul_right _ hroom
      have hr2 := run_append_room (P := P) w t ty e i ht hi g n cap cur hg a m c news hl hnews h1 hroom hfit
      rw [hr] at hr2
      cases hr2
      exact .inl hb
    · have holds : ∀ j u, xs[j]? = some u → w.cell? ((⟨g, 0, none⟩ : Addr).add j) = some u := hown.cells (g := g) rfl
      have hr2 := run_append_grow (P := P) w t ty e i z ht hi hz ⟨g, 0, none⟩ n cap xs hown.1 holds a m c news hl hnews (by omega) (by omega) (growslice_fits (by omega) hbytes)
      rw [hr] at hr2
      cases hr2
      cases hb
      exact .inr (Nat.le_refl _)
theorem wp_append_pl {P : Program} {w : World} {o : Oper} {a : Act} {K : Act → World → Prop} {Q : Exit → Act → World → Prop} (s x : Operand) (t : TypeId)
    (ho : o.op = .call { callee := .builtin .append, args := #[s, x], argTypes := #[t, t] })
    (base : Nat) (e : TypeId) (i : TypeInfo) (z : Value) (size bytes : Nat) (ht : P.underlying t = some (.slice e)) (hi : P.info? e = some i) (hz : i.zero = some z)
    (hsize : i.size = size) (hby : i.bytes = bytes) (hzs : z.cells.size = size) (hsz : 0 < size)
    (v : Value) (n : Nat) (xs : List Value) (hs : a.eval s = v) (hown : w.ownsRow base e size v n xs)
    (ad : Addr) (m c : Nat) (news : List Value) (hx : a.eval x = .slice (some ad) m c) (hl : news.length = m * size) (hnews : ∀ j u, news[j]? = some u → w.cell? (ad.add j) = some u) (h1 : ∀ u ∈ news, u.oneCell' = true)
    (h63 : n + m ≤ maxLen) (hbytes : (n + m) * bytes ≤ 140737488355328) (hbase : base ≤ w.heap.size)
    (h : ∀ v' w', w'.ownsRow base e size v' (n + m) (xs ++ news) → w.grownBy w' v.ownBlock → (∀ b, v'.ownBlock = some b → v.ownBlock = some b ∨ w.heap.size ≤ b) → K (a.put o.dst v') w') : o.wp P a w K Q := by
  obtain ⟨v', w', hr, h2, h3, _⟩ := run_append_own (P := P) w base t o.type e i z size bytes ht hi hz hsize hby hzs hsz v n xs hown ad m c news hl hnews h1 h63 hbytes hbase
  have h5 := append_place base t o.type e i z size bytes ht hi hz hsize hby hzs hsz v n xs hown ad m c news hl hnews h1 h63 hbytes hr
  unfold Oper.wp execOp
  simp only [ho, resolve, invoke, builtin, Sem.run_bind, Sem.run_pure, Result.andThen_ok, List.map_toArray, List.map_cons, List.map_nil, hs, hx, hr]
  exact h v' w' h2 h3 h5
theorem write_yes (w : World) (base g : Nat) (pv : Value) (d : D.Dk) (a : Nat) (bv : Value) (x : List Nat) (h : IsDisk w base g pv d) (hx : Byt w bv x) (hf : d.f = false) (ha : a < 52) (hl : x.length = 32) (hb0 : base ≤ w.heap.size) (hsz : (d.p.length + 1) * 40 ≤ 140737488355328) :
    Calls Try.prog 82 #[.pointer (some ⟨g, 0, none⟩), .int .i64 a, bv] w fun e w' => e = .returned (.int .i64 0) ∧ ∃ pv', IsDisk w' base g pv' (D.write d a x) ∧ Fr (ofD g pv) w w' ∧ (∀ b, pv'.ownBlock = some b → pv.ownBlock = some b ∨ w.heap.size ≤ b) := by
  obtain ⟨j0, hj, hy0, hy1, hy2⟩ := info_parts write_all
  obtain ⟨hz82, hi82⟩ := zero_of_info write_info
  obtain ⟨Z, hZ⟩ : ∃ Z, Z = (wcells (0, List.replicate 32 0)).toArray := ⟨_, rfl⟩
  have HZS : Hid (Z.size = 33) := by show Z.size = 33; rw [hZ]; rfl
  rw [← hZ] at hz82
  have HI := Lib.hid hi82
  have hc := put_yes w base g pv d a bv x h hx hf ha hl
  have HC := Lib.hid hc
  obtain ⟨cs, hcs⟩ : ∃ cs, cs = wcells (a, x) := ⟨_, rfl⟩
  have hcl : cs.length = 33 := by rw [hcs]; exact wcells_len hl
  have HCS : Hid (cs.toArray.size = 33) := by show cs.toArray.size = 33; rw [List.size_toArray]; exact hcl
  have HC1 : Hid (∀ u ∈ cs, u.oneCell' = true) := by rw [hcs]; exact wcells_one _
  have HCL := Lib.hid hcl
  have HCE := Lib.hid hcs
  have HH := Lib.hid h
  have HX : Hid (∀ y ∈ x, y < 256) := hx.bytes
  have HL := Lib.hid hl
  obtain ⟨ao, cap, rfl, hq1, hq2⟩ := h.pshape
  rw [← hcs] at hc
  have HC := Lib.hid hc
  clear hi82 hc h hx hZ hcs hcl hl
  go_enter Try.func82, Try.ntmps82
  go_wp2_with fail
  refine Calls.mono HC.out ?_
  rintro e w1 ⟨rfl, hbel⟩
  obtain ⟨W2, hW2⟩ : ∃ W2, W2 = w1.alloc (.cells cs.toArray 141) := ⟨_, rfl⟩
  have HW2 := Lib.hid hW2
  have HB2 : Hid (Box W2 w1.heap.size cs) := by rw [hW2]; exact Box.new w1 cs _
  have HD2 : Hid (IsDisk W2 base g (.slice ao d.p.length cap) d) := by rw [hW2]; exact (HH.out.up hbel).up (belA1 (belR w1))
  have HBl : Hid (Below w.heap.size w W2) := by rw [hW2]; exact belA1 hbel
  have HS2 : Hid (W2.heap.size = w1.heap.size + 1) := by show W2.heap.size = _; rw [hW2]; simp
  clear hW2
  go_wp2_with (first
    | (refine wpList_store_new rfl 141 _ _ rfl w1.heap.size w1 rfl Z cs.toArray rfl rfl rfl (by rw [HCS.out]; exact HI.out) (by rw [HZS.out, HCS.out]) (all_oneCell_toArray HC1.out) ?_; rw [← HW2.out])
    | fail)
  have hpv := HD2.out.pv_cell
  have hu78 := Try.underlying133
  have hr2 := HB2.out.range
  have hu82 := Try.underlying141
  have hi1 : (Try.prog.info? 141).map (·.size) = some cs.length := by rw [HCL.out]; exact HI.out
  have hr3 : W2.drew.rangeAt w1.heap.size 0 cs := by rw [World.rangeAt_drew]; exact hr2
  have hpvA : ∀ ob, (W2.drew.alloc ob).cell? ⟨g, 1664, none⟩ = some (.slice ao d.p.length cap) := fun ob => cell_fr hpv ((Fr.drew (S := fun _ => False) _).trans (Fr.alloc _ _)) id
  have hpvB : ∀ ob, (W2.alloc ob).cell? ⟨g, 1664, none⟩ = some (.slice ao d.p.length cap) := fun ob => cell_fr hpv (Fr.alloc (S := fun _ => False) _ _) id
  have hg1 : g < w1.heap.size := Nat.lt_of_lt_of_le HH.out.lt hbel.size
  refine wp_region_held_drew (S := fun w' => w'.rangeAt w1.heap.size 0 cs) (by kernel_rfl) hr3 (fun hHeld => ?_)
  refine wpAnyH_take (i := 5) (oi := _) (v := .agg cs.toArray) rfl (by kernel_rfl) (by kernel_rfl) (by kernel_rfl) (fun _ _ _ h => h) (yieldsIf_load_mid (by rfl) 141 _ rfl w1.heap.size 0 rfl cs _ (fun w h => h) hu82 rfl hi1) (by assumption) ?_
  try simp only [Act.put, List.getElem_toArray, List.getElem_cons_zero, List.getElem_cons_succ, List.setIfInBounds_toArray, List.set_cons_zero, List.set_cons_succ]
  refine wpAnyH_take (i := 0) (oi := _) (v := ?_) rfl (by kernel_rfl) (by kernel_rfl) (by kernel_rfl) (fun _ _ _ h => h) (Or.inl ⟨by rfl, ?_⟩) (by assumption) ?_
  rotate_left
  · intro w hSw
    go_simp
    try with_reducible rfl
  try simp only [Act.put, List.getElem_toArray, List.getElem_cons_zero, List.getElem_cons_succ, List.setIfInBounds_toArray, List.set_cons_zero, List.set_cons_succ]
  refine wpAnyH_take (i := 1) (oi := _) (v := ?_) rfl (by kernel_rfl) (by kernel_rfl) (by kernel_rfl) (fun _ _ _ h => h) (Or.inl ⟨by rfl, ?_⟩) (by assumption) ?_
  rotate_left
  · intro w hSw
    go_simp
    try with_reducible rfl
  try simp only [Act.put, List.getElem_toArray, List.getElem_cons_zero, List.getElem_cons_succ, List.setIfInBounds_toArray, List.set_cons_zero, List.set_cons_succ]
  refine wpAnyH_take (i := 2) (oi := _) (v := ?_) rfl (by kernel_rfl) (by kernel_rfl) (by kernel_rfl) (fun _ _ _ h => h) (Or.inl ⟨by rfl, ?_⟩) (by assumption) ?_
  rotate_left
  · intro w hSw
    go_simp
    try with_reducible rfl
  try simp only [Act.put, List.getElem_toArray, List.getElem_cons_zero, List.getElem_cons_succ, List.setIfInBounds_toArray, List.set_cons_zero, List.set_cons_succ]
  refine wpAnyH_take (i := 3) (oi := _) (v := ?_) rfl (by kernel_rfl) (by kernel_rfl) (by kernel_rfl) (fun _ _ _ h => h) (Or.inl ⟨by rfl, ?_⟩) (by assumption) ?_
  rotate_left
  · intro w hSw
    go_simp
    try with_reducible rfl
  try simp only [Act.put, List.getElem_toArray, List.getElem_cons_zero, List.getElem_cons_succ, List.setIfInBounds_toArray, List.set_cons_zero, List.set_cons_succ]
  refine wpAnyH_ready (rs := [4, 6]) (by kernel_rfl) (by simp) ?_
  refine AllReadyH.cons (o := _) rfl (fun K hK => ?_) (AllReadyH.cons (o := _) rfl (fun K hK => ?_) AllReadyH.nil)
  · go_simp
    refine hK.out _ _ hHeld (fun hHeld => ?_)
    clear hK K
    try simp only [Act.put, List.getElem_toArray, List.getElem_cons_zero, List.getElem_cons_succ, List.setIfInBounds_toArray, List.set_cons_zero, List.set_cons_succ]
    refine wpAnyH_ready (rs := [6]) (by kernel_rfl) (by simp) ?_
    refine AllReadyH.cons (o := _) rfl (fun K hK => ?_) AllReadyH.nil
    rw [if_pos (by rfl)]
    refine wp_buildSlice_one 133 141 _ rfl cs 33 rfl HCL.out (by decide) (by decide) j0 _ hu78 hj hy0 hy1 ?_
    refine hK.out _ _ (World.rangeAt_alloc hHeld _) (fun hHeld => ?_)
    clear hK K
    try simp only [Act.put, List.getElem_toArray, List.getElem_cons_zero, List.getElem_cons_succ, List.setIfInBounds_toArray, List.set_cons_zero, List.set_cons_succ]
    refine wpAnyH_ready (rs := [7]) (by kernel_rfl) (by simp) ?_
    refine AllReadyH.cons (o := _) rfl (fun K hK => ?_) AllReadyH.nil
    rw [if_pos (by rfl)]
    refine wp_append_pl _ _ 133 rfl base 141 j0 _ 33 40 hu78 hj hy0 hy1 hy2 rfl (by decide) (.slice ao d.p.length cap) d.p.length (pcells d.p) rfl (row_fr HD2.out.pend ((Fr.drew (S := fun _ => False) _).trans (Fr.alloc _ _)) (fun _ _ => id)) ⟨W2.heap.size, 0, none⟩ 1 1 cs rfl HCL.out (news_at (by simp) rfl) HC1.out (by simp only [maxLen]; omega) (by omega) (by have := HBl.out.size; simp; omega) ?_
    intro v' w' ho hg hpl
    obtain ⟨ao', cap', rfl⟩ := row_shape ho
    have hA := ((Fr.drew (S := fun b => (Value.slice ao d.p.length cap).ownBlock = some b) W2).trans (Fr.alloc _ (.cells cs.toArray 141))).trans (Fr.grown hg)
    have HOb := Lib.hid (rangeAt_fr HD2.out.cells hA HD2.out.ap)
    have HTh := Lib.hid (there_fr HD2.out.there hA HD2.out.ap)
    have HFr := Lib.hid ((Fr.of_below HBl.out (S := ofD g (Value.slice ao d.p.length cap))).transN hA (fun b hb => .inl (.inr hb)))
    have HO := Lib.hid ho
    have HG := Lib.hid hg
    have HPL := Lib.hid hpl
    have hc' := obj_pv HD2.out.ok HOb.out
    have hz' := there_frozen (o := 1664) HTh.out (by decide)
    have hsh : w'.rangeAt w1.heap.size 0 cs := rangeAt_fr hr2 hA (fun e => by have h1 := (HH.out.pend.lt _ e).2; have h2 := hbel.size; omega)
    clear hA ho hg hHeld hpl
    refine hK.out _ _ hsh (fun hHeld => ?_)
    clear hK K
    try simp only [Act.put, List.getElem_toArray, List.getElem_cons_zero, List.getElem_cons_succ, List.setIfInBounds_toArray, List.set_cons_zero, List.set_cons_succ]
    refine wpAnyH_take (i := 8) (oi := _) (v := ?_) rfl (by kernel_rfl) (by kernel_rfl) (by kernel_rfl) (fun _ _ _ h => h) (Or.inl ⟨by rfl, ?_⟩) (by assumption) ?_
    rotate_left
    · intro w hSw
      go_simp
      try with_reducible rfl
    try simp only [Act.put, List.getElem_toArray, List.getElem_cons_zero, List.getElem_cons_succ, List.setIfInBounds_toArray, List.set_cons_zero, List.set_cons_succ]
    refine wpAnyH_take (i := 9) (oi := _) (v := ?_) rfl (by kernel_rfl) (by kernel_rfl) (by kernel_rfl) (fun _ _ _ h => h) (Or.inl ⟨by rfl, ?_⟩) (by assumption) ?_
    rotate_left
    · intro w hSw
      go_simp
      try with_reducible rfl
    try simp only [Act.put, List.getElem_toArray, List.getElem_cons_zero, List.getElem_cons_succ, List.setIfInBounds_toArray, List.set_cons_zero, List.set_cons_succ]
    refine wpAnyH_ready (rs := [10]) (by kernel_rfl) (by simp) ?_
    refine AllReadyH.cons (o := _) rfl (fun K hK => ?_) AllReadyH.nil
    go_simp
    refine hK.out _ _ (rangeAt_fr hsh (Fr.cell (w := w') ⟨g, 1664, none⟩ _) (by show ¬ w1.heap.size = g; omega)) (fun hHeld => ?_)
    clear hK K
    refine wpAnyH_done (by kernel_rfl) ?_ _
    go_wp2
    go_ret
    refine ⟨rfl, .slice ao' (d.p.length + 1) cap', ?_, HFr.out.trans ((Fr.cell (w := w') ⟨g, 1664, none⟩ _).mono (fun b hb => Or.inl hb)), ?_⟩
    · refine IsDisk.setPv (d := d) (p' := d.p ++ [(a, x)]) HD2.out.ge (Nat.lt_of_lt_of_le HH.out.lt HFr.out.size) HD2.out.ok HOb.out HTh.out ?_ ?_ (D.write_ok HD2.out.ok ha HL.out HX.out)
      · rw [List.length_append, pcells_append, pcells_one1, ← HCE.out]
        exact HO.out
      · intro e
        rcases HPL.out g e with h1 | h1
        · exact HH.out.ap h1
        · have h2 : W2.heap.size + 1 ≤ g := by simpa using h1
          have h3 := HD2.out.lt
          omega
    · intro b hb
      rcases HPL.out b hb with h1 | h1
      · exact .inl h1
      · right
        have h2 := HBl.out.size
        have h3 : W2.heap.size ≤ b := by have := Nat.le_of_succ_le (by simpa using h1 : W2.heap.size + 1 ≤ b); exact this
        omega
  · rw [if_pos (by rfl)]
    refine wp_buildSlice_one 133 141 _ rfl cs 33 rfl HCL.out (by decide) (by decide) j0 _ hu78 hj hy0 hy1 ?_
    refine hK.out _ _ (World.rangeAt_alloc hHeld _) (fun hHeld => ?_)
    clear hK K
    try simp only [Act.put, List.getElem_toArray, List.getElem_cons_zero, List.getElem_cons_succ, List.setIfInBounds_toArray, List.set_cons_zero, List.set_cons_succ]
    refine wpAnyH_ready (rs := [4]) (by kernel_rfl) (by simp) ?_
    refine AllReadyH.cons (o := _) rfl (fun K hK => ?_) AllReadyH.nil
    go_simp
    refine hK.out _ _ hHeld (fun hHeld => ?_)
    clear hK K
    try simp only [Act.put, List.getElem_toArray, List.getElem_cons_zero, List.getElem_cons_succ, List.setIfInBounds_toArray, List.set_cons_zero, List.set_cons_succ]
    refine wpAnyH_ready (rs := [7]) (by kernel_rfl) (by simp) ?_
    refine AllReadyH.cons (o := _) rfl (fun K hK => ?_) AllReadyH.nil
    rw [if_pos (by rfl)]
    refine wp_append_pl _ _ 133 rfl base 141 j0 _ 33 40 hu78 hj hy0 hy1 hy2 rfl (by decide) (.slice ao d.p.length cap) d.p.length (pcells d.p) rfl (row_fr HD2.out.pend ((Fr.drew (S := fun _ => False) _).trans (Fr.alloc _ _)) (fun _ _ => id)) ⟨W2.heap.size, 0, none⟩ 1 1 cs rfl HCL.out (news_at (by simp) rfl) HC1.out (by simp only [maxLen]; omega) (by omega) (by have := HBl.out.size; simp; omega) ?_
    intro v' w' ho hg hpl
    obtain ⟨ao', cap', rfl⟩ := row_shape ho
    have hA := ((Fr.drew (S := fun b => (Value.slice ao d.p.length cap).ownBlock = some b) W2).trans (Fr.alloc _ (.cells cs.toArray 141))).trans (Fr.grown hg)
    have HOb := Lib.hid (rangeAt_fr HD2.out.cells hA HD2.out.ap)
    have HTh := Lib.hid (there_fr HD2.out.there hA HD2.out.ap)
    have HFr := Lib.hid ((Fr.of_below HBl.out (S := ofD g (Value.slice ao d.p.length cap))).transN hA (fun b hb => .inl (.inr hb)))
    have HO := Lib.hid ho
    have HG := Lib.hid hg
    have HPL := Lib.hid hpl
    have hc' := obj_pv HD2.out.ok HOb.out
    have hz' := there_frozen (o := 1664) HTh.out (by decide)
    have hsh : w'.rangeAt w1.heap.size 0 cs := rangeAt_fr hr2 hA (fun e => by have h1 := (HH.out.pend.lt _ e).2; have h2 := hbel.size; omega)
    clear hA ho hg hHeld hpl
    refine hK.out _ _ hsh (fun hHeld => ?_)
    clear hK K
    try simp only [Act.put, List.getElem_toArray, List.getElem_cons_zero, List.getElem_cons_succ, List.setIfInBounds_toArray, List.set_cons_zero, List.set_cons_succ]
    refine wpAnyH_take (i := 8) (oi := _) (v := ?_) rfl (by kernel_rfl) (by kernel_rfl) (by kernel_rfl) (fun _ _ _ h => h) (Or.inl ⟨by rfl, ?_⟩) (by assumption) ?_
    rotate_left
    · intro w hSw
      go_simp
      try with_reducible rfl
    try simp only [Act.put, List.getElem_toArray, List.getElem_cons_zero, List.getElem_cons_succ, List.setIfInBounds_toArray, List.set_cons_zero, List.set_cons_succ]
    refine wpAnyH_take (i := 9) (oi := _) (v := ?_) rfl (by kernel_rfl) (by kernel_rfl) (by kernel_rfl) (fun _ _ _ h => h) (Or.inl ⟨by rfl, ?_⟩) (by assumption) ?_
    rotate_left
    · intro w hSw
      go_simp
      try with_reducible rfl
    try simp only [Act.put, List.getElem_toArray, List.getElem_cons_zero, List.getElem_cons_succ, List.setIfInBounds_toArray, List.set_cons_zero, List.set_cons_succ]
    refine wpAnyH_ready (rs := [10]) (by kernel_rfl) (by simp) ?_
    refine AllReadyH.cons (o := _) rfl (fun K hK => ?_) AllReadyH.nil
    go_simp
    refine hK.out _ _ (rangeAt_fr hsh (Fr.cell (w := w') ⟨g, 1664, none⟩ _) (by show ¬ w1.heap.size = g; omega)) (fun hHeld => ?_)
    clear hK K
    refine wpAnyH_done (by kernel_rfl) ?_ _
    go_wp2
    go_ret
    refine ⟨rfl, .slice ao' (d.p.length + 1) cap', ?_, HFr.out.trans ((Fr.cell (w := w') ⟨g, 1664, none⟩ _).mono (fun b hb => Or.inl hb)), ?_⟩
    · refine IsDisk.setPv (d := d) (p' := d.p ++ [(a, x)]) HD2.out.ge (Nat.lt_of_lt_of_le HH.out.lt HFr.out.size) HD2.out.ok HOb.out HTh.out ?_ ?_ (D.write_ok HD2.out.ok ha HL.out HX.out)
      · rw [List.length_append, pcells_append, pcells_one1, ← HCE.out]
        exact HO.out
      · intro e
        rcases HPL.out g e with h1 | h1
        · exact HH.out.ap h1
        · have h2 : W2.heap.size + 1 ≤ g := by simpa using h1
          have h3 := HD2.out.lt
          omega
    · intro b hb
      rcases HPL.out b hb with h1 | h1
      · exact .inl h1
      · right
        have h2 := HBl.out.size
        have h3 : W2.heap.size ≤ b := by have := Nat.le_of_succ_le (by simpa using h1 : W2.heap.size + 1 ≤ b); exact this
        omega
end Go.Proofs.Ytenjpldinnbcbaa
