/- The walk of the reference's EncodeRecord. -/
import Derived.Test.YtgnnkglmlopldaaRecR
import Derived.Test.YtgnnkglmlopldaaOwnD
import Derived.Test.YtgnnkglmlopldaaSupRE
import Derived.Test.YtgnnkglmlopldaaCrcRef
import Derived.Deep.CutRange
namespace Go.Proofs.Ytgnnkglmlopldaa
open Go.RowKit C
set_option linter.unusedVariables false
set_option linter.unusedSimpArgs false
set_option maxRecDepth 100000
set_option maxHeartbeats 4000000

theorem wp_make_bytes {P : Program} {w : World} {o : Oper} {a : Act} {K : Act → World → Prop} {Q : Exit → Act → World → Prop}
    (l c : Operand) (t : TypeId) (hop : o.op = Op.makeSlice t l c)
    (i : TypeInfo) (h1 : P.underlying t = some (.slice 5)) (h2 : P.info? 5 = some i) (h3 : i.zero = some (.int .u8 0)) (h4 : i.size = 1) (h5 : i.bytes = 1)
    (kl kc : IntKind) (n : Nat) (hl : a.eval l = .int kl (n : Int)) (hc : a.eval c = .int kc (n : Int)) (hn : n ≤ 1048576)
    (hK : ∀ w', Own w' w.heap.size (.slice (some ⟨w.heap.size, 0, none⟩) n n) (List.replicate n 0) → Below w.heap.size w w' → K (a.put o.dst (.slice (some ⟨w.heap.size, 0, none⟩) n n)) w') :
    o.wp P a w K Q := by
  obtain ⟨w', hrun, r1, r2⟩ := run_make_full (P := P) w w.heap.size t 5 i (.int .u8 0) 1 h1 h2 h3 h4 kl kc n (by rw [h5]; omega) (by simp only [maxLen]; omega) (Nat.le_refl _)
  unfold Oper.wp
  simp [execOp, hop, hl, hc, hrun, Result.andThen]
  refine hK w' ⟨fun x hx => by rw [List.eq_of_mem_replicate hx]; decide, ?_⟩ (grown_below r2)
  rw [List.map_replicate, List.length_replicate]
  have e : (madeCells (Value.cells (.int .u8 0)) (n * 1)).toList = List.replicate n (u8v 0) := by
    rw [Nat.mul_one]; exact madeCells_one _ _
  rw [e] at r1
  exact r1
theorem wp_copy_full {P : Program} {w : World} {o : Oper} {a : Act} {K : Act → World → Prop} {Q : Exit → Act → World → Prop} (d s : Operand) (dT sT : TypeId)
    (ho : o.op = .call { callee := .builtin .copy, args := #[d, s], argTypes := #[dT, sT] }) (hu : P.underlying dT = some (.slice 5)) (hsz : (P.info? 5).map (·.size) = some 1)
    (dv sv : Value) (hd : a.eval d = dv) (hs : a.eval s = sv) (base : Nat) (L l : List Nat) (hown : Own w base dv L) (hsrc : Byt w sv l) (hlen : l.length = L.length) (h0 : 0 < l.length)
    (h : ∀ w', Own w' base dv l → w.grownBy w' dv.ownBlock → K (a.put o.dst (goInt l.length)) w') : o.wp P a w K Q := by
  obtain ⟨ao, cap, rfl, h1, h2, hz, h3, hA⟩ := hsrc
  obtain ⟨hL8, hln, hrow⟩ := hown
  rcases hrow with ⟨rfl, hn⟩ | ⟨g, cap', cur, rfl, hb, hg', r1, r2, r3, r4⟩
  · omega
  · obtain ⟨b, off, rfl, hlt⟩ := hA.some_of (by simp; omega)
    rw [Nat.mul_one] at r3 r4
    have hcl : cur.toList.length = cap' := by rw [Array.length_toList]; exact r3
    have hrun := run_copy_row (P := P) w dT sT o.type 5 g 0 L.length cap' ⟨b, off, none⟩ l.length cap cur 5 (l.map u8v) hu hsz hg' (by simp [hlen, Nat.min]) (by
      intro j v hj
      rcases hA with hA | ⟨b', off', e, _, hc⟩
      · rw [hA] at hj; simp at hj
      · cases e
        obtain ⟨hj1, hj2⟩ := List.getElem?_eq_some_iff.1 hj
        rw [WideShapes.add_plain, hc j hj1]
        exact hj) (by simp; omega) (u8v_one _)
    have e2 : (l.map u8v).length = l.length := by simp
    rw [e2] at hrun
    unfold Oper.wp
    simp only [execOp, ho, resolve, invoke, builtin, hd, hs, hrun, Result.andThen, Sem.run_bind, Sem.run_pure, Result.andThen_ok, List.map_toArray, List.map_cons, List.map_nil]
    refine h _ ⟨h3, by simp, .inr ⟨g, cap', _, by rw [hlen], hb, setRow_heap w g _ _ _ _ hg', by omega, r2, ?_, ?_⟩⟩ ⟨rfl, rfl, rfl, by simp [World.setRow], fun k _ hk => setRow_other w g k _ (fun e => hk (by rw [e]; rfl))⟩
    · simp [hcl]; omega
    · simp
theorem AtoiLt {w : World} {a : Addr} {v : Value} (h : w.cell? a = some v) : a.block < w.heap.size := World.block_lt_of_cell? _ _ h
theorem OwnD.three {W : World} {base g1 g2 g3 : Nat} {l1 l2 l3 : List Nat} {X : Nat → Prop} {n1 n2 n3 k1 k2 k3 : Nat} (O1 : Own W base (.slice (some ⟨g1, 0, none⟩) n1 k1) l1) (O2 : Own W base (.slice (some ⟨g2, 0, none⟩) n2 k2) l2) (O3 : Own W base (.slice (some ⟨g3, 0, none⟩) n3 k3) l3)
    (h12 : g1 ≠ g2) (h13 : g1 ≠ g3) (h23 : g2 ≠ g3) (x1 : ¬ X g1) (x2 : ¬ X g2) (x3 : ¬ X g3) (hb : base ≤ W.heap.size) :
    OwnD (W.alloc (.cells #[.slice (some ⟨g1, 0, none⟩) n1 k1, .slice (some ⟨g2, 0, none⟩) n2 k2, .slice (some ⟨g3, 0, none⟩) n3 k3] 37)) base (.slice (some ⟨W.heap.size, 0, none⟩) 3 3) [l1, l2, l3] X := by
  refine ⟨[.slice (some ⟨g1, 0, none⟩) n1 k1, .slice (some ⟨g2, 0, none⟩) n2 k2, .slice (some ⟨g3, 0, none⟩) n3 k3], World.ownsRow_lit (base := base) (e := 37) (size := 1) W _ 3 hb (by simp [maxLen]) (by simp), ?_, ?_⟩
  · intro i hi
    have hi' : i = 0 ∨ i = 1 ∨ i = 2 := by simp at hi; omega
    rcases hi' with rfl | rfl | rfl
    · exact ⟨_, rfl, O1.up (belA1 (belR _)), fun g hg => by cases hg; exact x1⟩
    · exact ⟨_, rfl, O2.up (belA1 (belR _)), fun g hg => by cases hg; exact x2⟩
    · exact ⟨_, rfl, O3.up (belA1 (belR _)), fun g hg => by cases hg; exact x3⟩
  · intro i j c d g hi hj hc hd
    have key : ∀ (i : Nat) (c : Value), ([.slice (some ⟨g1, 0, none⟩) n1 k1, .slice (some ⟨g2, 0, none⟩) n2 k2, .slice (some ⟨g3, 0, none⟩) n3 k3] : List Value)[i]? = some c → c.ownBlock = some g → (i = 0 ∧ g = g1) ∨ (i = 1 ∧ g = g2) ∨ (i = 2 ∧ g = g3) := by
      intro i c hi hc
      match i, hi with
      | 0, hi => cases hi; cases hc; exact .inl ⟨rfl, rfl⟩
      | 1, hi => cases hi; cases hc; exact .inr (.inl ⟨rfl, rfl⟩)
      | 2, hi => cases hi; cases hc; exact .inr (.inr ⟨rfl, rfl⟩)
    rcases key i c hi hc with ⟨a1, a2⟩ | ⟨a1, a2⟩ | ⟨a1, a2⟩ <;> rcases key j d hj hd with ⟨b1, b2⟩ | ⟨b1, b2⟩ | ⟨b1, b2⟩ <;> omega
theorem OwnD.grown {w w' : World} {base base' : Nat} {v x : Value} {ls : List (List Nat)} {l : List Nat} (h : OwnD w base v ls (fun g => x.ownBlock = some g)) (hx : Own w base' x l) (hg : w.grownBy w' x.ownBlock) : OwnD w' base v ls (fun _ => False) := by
  obtain ⟨cs, h1, h2, h3⟩ := h
  refine ⟨cs, h1.kept hg ?_, fun i hi => ?_, h3⟩
  · rcases rows_apart h1 hx with e | e
    · cases hv : v.ownBlock with
      | none => exact .inl rfl
      | some g => exact .inr (by rw [e]; exact fun e => by cases e)
    · exact .inr fun e2 => e e2.symm
  · obtain ⟨c, e, hc, hxx⟩ := h2 i hi
    exact ⟨c, e, hc.keep hg fun g hcg => hxx g hcg, fun _ _ h => h⟩
theorem refrec_no (s : Int) (v : Value) (l : List RI) (w : World) (hs : i64b s) (h : Items w v l) (hk : rok s l = false) :
    Calls Try.prog 15 #[.int .i64 s, v] w fun e w' => e = .returned (.tuple #[.slice none 0 0, .bool false]) ∧ Below w.heap.size w w' := by
  have hc := refcheck_any s v l w hs h
  rw [hk] at hc
  have HC := Lib.hid hc
  obtain ⟨ao, cap, rfl, _⟩ := h.shape
  clear hc hk h
  go_enter Try.func15, Try.ntmps15
  go_wp2_with (go_at_call 37; refine Calls.mono HC.out ?_; rintro e w2 ⟨rfl, b2⟩)
  go_ret2
  exact ⟨rfl, b2⟩
theorem refrec_yes (s : Nat) (v : Value) (l : List RI) (w : World) (h : Items w v l) (hk : rok s l = true) :
    Calls Try.prog 15 #[.int .i64 (s : Int), v] w fun e w' => ∃ v', e = .returned (.tuple #[v', .bool true]) ∧ OwnD w' w.heap.size v' (renc s l) (fun _ => False) ∧ Below w.heap.size w w' := by
  obtain ⟨⟨s1, s2⟩, hn3, _⟩ := (rok_iff (s : Int) l).1 hk
  have hfine := Lib.hid (rok_fine hk)
  have hc := refcheck_any s v l w ⟨by omega, by omega⟩ h
  rw [hk] at hc
  have HI := Lib.hid h
  obtain ⟨ao, cap, rfl, hc1, hc2, _⟩ := h.shape
  obtain ⟨n, hn⟩ : ∃ n, n = l.length := ⟨_, rfl⟩
  have HN := Lib.hid hn
  have HE : Hid (renc s l = sealed ((([87, 82, 69, 67] ++ [s / 16777216 % 256, s / 65536 % 256, s / 256 % 256, s % 256]) ++ [n % 256] ++ l.flatMap rplace) ++ List.replicate (32 - (9 + 2 * n)) 0) (l.map RI.b ++ List.replicate (3 - n) zero32) :: (l.map RI.b ++ List.replicate (3 - n) zero32)) := by
    show _ = _; rw [show 32 - (9 + 2 * n) = 23 - 2 * n by omega, hn]; rfl
  rw [← hn] at hc1 hn3 hc HI ⊢
  obtain ⟨j0, hj, hy0, hy1, hy2⟩ := info_parts uint8_info
  obtain ⟨i0, hi, hz0, hz1, hz2⟩ := info_parts parts_info
  have hj2 : (Try.prog.info? 5).map (·.size) = some 1 := by rw [hj]; simp [hy1]
  have HJ := Lib.hid hj2
  have kc := fun (w : World) (C : Array Value) (n c : Nat) => Lib.run_convert_bytes_const (P := Try.prog) w 37 5 C n c Try.underlying37 Try.underlying5
  have HC := Lib.hid hc
  clear hc h hk hn hj2
  go_enter Try.func15, Try.ntmps15
  go_wp2_with (first
    | (go_at_call 37; refine Calls.mono HC.out ?_; rintro e w2 ⟨rfl, b2⟩)
    | (go_at_call 38; refine Calls.mono (four_any s _ s2) ?_; rintro e w9 ⟨gf, rfl, OF, bF⟩)
    | (at_builtin; go_loud (refine wpList_append_full rfl _ _ 37 rfl j0 Try.underlying37 hj hy0 hy1 hy2 _ _ _ [87, 82, 69, 67] rfl ((Byt.lit w2 _ _ [87, 82, 69, 67] rfl rfl rfl (by decide) (by decide)).up bF) _ _ _ _ [s / 16777216 % 256, s / 65536 % 256, s / 256 % 256, s % 256] rfl OF.byt (by simp) (by simp) ?_); intro v3 w3 O3 g3x; have b3 : Below w.heap.size w w3 := belGN (belT (belA1 b2) bF) g3x; have O3 := own_mono O3 (belT (belA1 b2) bF).size)
    | (at_builtin; go_loud (refine wpList_append_bytes rfl (.tmp 18) (.tmp 22) 37 rfl j0 Try.underlying37 hj hy0 hy1 hy2 w.heap.size v3 _ rfl (O3.up (belA1 (belR _))) _ [n % 256] rfl (Byt.lit _ _ _ [n % 256] (by simp) rfl (by simp [u8v]; omega) (by intro x hx; simp at hx; omega) (by simp)) (by simp) (by have := b3.size; simp; omega) ?_); intro v4 w4 O4 g4x; have b4 : Below w.heap.size w w4 := belG (belA1 b3) g4x (fun g hg => O3.ge g hg)))
  obtain ⟨l9, hl9⟩ : ∃ l9, l9 = ([87, 82, 69, 67] ++ [s / 16777216 % 256, s / 65536 % 256, s / 256 % 256, s % 256]) ++ [n % 256] := ⟨_, rfl⟩
  have L9 : Hid (l9.length = 9) := by show _ = _; rw [hl9]; rfl
  have HL : Hid ((([87, 82, 69, 67] ++ [s / 16777216 % 256, s / 65536 % 256, s / 256 % 256, s % 256]) ++ [n % 256] : List Nat) = l9) := hl9.symm
  rw [← hl9] at O4 HE
  clear hl9 b2 kc b3 bF OF O3 g3x g4x
  go_cut [7] from 24 to 27 (fun sv W => OwnD W w.heap.size sv [zero32, zero32, zero32] (fun g => v4.ownBlock = some g) ∧ Own W w.heap.size v4 l9 ∧ Below w.heap.size w W)
  case first =>
    refine wp_region_held_drew (S := fun _ => True) (by kernel_rfl) trivial (fun hHeld => ?_)
    refine wpAnyH_ready (rs := [0, 1, 2]) (by kernel_rfl) (by simp) ?_
    refine AllReadyH.cons (o := _) rfl (fun K hK => ?_) (AllReadyH.cons (o := _) rfl (fun K hK => ?_) (AllReadyH.cons (o := _) rfl (fun K hK => ?_) AllReadyH.nil))
    · rw [if_pos (by rfl)]
      refine wp_make_bytes _ _ 37 rfl j0 Try.underlying37 hj hy0 hy1 hy2 .i64 .i64 32 rfl rfl (by decide) ?_
      intro wm0 OM0 bm0
      have dm0 : Below w.heap.size w wm0 := belT (belDr b4) bm0
      have sm0 : ∃ g, g = w4.heap.size ∧ Own wm0 g (.slice (some ⟨g, 0, none⟩) 32 32) zero32 ∧ g < wm0.heap.size ∧ w4.heap.size ≤ g := ⟨w4.heap.size, rfl, OM0, OM0.lt _ rfl, Nat.le_refl _⟩
      obtain ⟨g0, hg0, OO0, hl0, hq0⟩ := sm0
      refine hK.out _ _ trivial (fun hHeld => ?_)
      clear hK K
      try simp only [Act.put, List.getElem_toArray, List.getElem_cons_zero, List.getElem_cons_succ, List.setIfInBounds_toArray, List.set_cons_zero, List.set_cons_succ]
      refine wpAnyH_ready (rs := [1, 2]) (by kernel_rfl) (by simp) ?_
      refine AllReadyH.cons (o := _) rfl (fun K hK => ?_) (AllReadyH.cons (o := _) rfl (fun K hK => ?_) AllReadyH.nil)
      · rw [if_pos (by rfl)]
        refine wp_make_bytes _ _ 37 rfl j0 Try.underlying37 hj hy0 hy1 hy2 .i64 .i64 32 rfl rfl (by decide) ?_
        intro wm1 OM1 bm1
        have dm1 : Below w.heap.size w wm1 := belT dm0 bm1
        have sm1 : ∃ g, g = wm0.heap.size ∧ Own wm1 g (.slice (some ⟨g, 0, none⟩) 32 32) zero32 ∧ g < wm1.heap.size ∧ w4.heap.size ≤ g := ⟨wm0.heap.size, rfl, OM1, OM1.lt _ rfl, Nat.le_trans hq0 (Nat.le_of_lt hl0)⟩
        obtain ⟨g1, hg1, OO1, hl1, hq1⟩ := sm1
        refine hK.out _ _ trivial (fun hHeld => ?_)
        clear hK K
        try simp only [Act.put, List.getElem_toArray, List.getElem_cons_zero, List.getElem_cons_succ, List.setIfInBounds_toArray, List.set_cons_zero, List.set_cons_succ]
        refine wpAnyH_ready (rs := [2]) (by kernel_rfl) (by simp) ?_
        refine AllReadyH.cons (o := _) rfl (fun K hK => ?_) AllReadyH.nil
        rw [if_pos (by rfl)]
        refine wp_make_bytes _ _ 37 rfl j0 Try.underlying37 hj hy0 hy1 hy2 .i64 .i64 32 rfl rfl (by decide) ?_
        intro wm2 OM2 bm2
        have dm2 : Below w.heap.size w wm2 := belT dm1 bm2
        have sm2 : ∃ g, g = wm1.heap.size ∧ Own wm2 g (.slice (some ⟨g, 0, none⟩) 32 32) zero32 ∧ g < wm2.heap.size ∧ w4.heap.size ≤ g := ⟨wm1.heap.size, rfl, OM2, OM2.lt _ rfl, Nat.le_trans hq1 (Nat.le_of_lt hl1)⟩
        obtain ⟨g2, hg2, OO2, hl2, hq2⟩ := sm2
        refine hK.out _ _ trivial (fun hHeld => ?_)
        clear hK K
        try simp only [Act.put, List.getElem_toArray, List.getElem_cons_zero, List.getElem_cons_succ, List.setIfInBounds_toArray, List.set_cons_zero, List.set_cons_succ]
        refine wpAnyH_ready (rs := [3]) (by kernel_rfl) (by simp) ?_
        refine AllReadyH.cons (o := _) rfl (fun K hK => ?_) AllReadyH.nil
        go_simp
        have SZ0 : w.heap.size ≤ g0 := Nat.le_trans b4.size hq0
        have SZ1 : w.heap.size ≤ g1 := Nat.le_trans b4.size hq1
        have SZ2 : w.heap.size ≤ g2 := Nat.le_trans b4.size hq2
        have QD := OwnD.three (X := fun g => v4.ownBlock = some g) (own_mono (OO0.up (belT bm1 bm2)) SZ0) (own_mono (OO1.up bm2) SZ1) (own_mono OO2 SZ2) (by omega) (by omega) (by omega) (fun e => by have := O4.lt _ e; omega) (fun e => by have := O4.lt _ e; omega) (fun e => by have := O4.lt _ e; omega) (dm2.size)
        have PD : Own wm2 w.heap.size v4 l9 := O4.up (belT (belDr (belR _)) (belT bm0 (belT bm1 bm2)))
        subst hg0 hg1 hg2
        refine hK.out _ _ trivial (fun hHeld => ?_)
        clear hK K
        try simp only [Act.put, List.getElem_toArray, List.getElem_cons_zero, List.getElem_cons_succ, List.setIfInBounds_toArray, List.set_cons_zero, List.set_cons_succ]
        refine wpAnyH_take (i := 4) (oi := _) (v := ?_) rfl (by kernel_rfl) (by kernel_rfl) (by kernel_rfl) (fun _ _ _ h => h) (Or.inl ⟨by rfl, ?_⟩) (by assumption) ?_
        rotate_left
        · intro w hSw
          (try dsimp only at hSw)
          go_simp
          try with_reducible rfl
        try simp only [Act.put, List.getElem_toArray, List.getElem_cons_zero, List.getElem_cons_succ, List.setIfInBounds_toArray, List.set_cons_zero, List.set_cons_succ]
        refine wpAnyH_done (by kernel_rfl) ?_ _
        go_wp2
        go_meet
        case rel => exact ⟨QD, PD.up (belA1 (belR _)), belA1 dm2⟩
      · rw [if_pos (by rfl)]
        refine wp_make_bytes _ _ 37 rfl j0 Try.underlying37 hj hy0 hy1 hy2 .i64 .i64 32 rfl rfl (by decide) ?_
        intro wm2 OM2 bm2
        have dm2 : Below w.heap.size w wm2 := belT dm0 bm2
        have sm2 : ∃ g, g = wm0.heap.size ∧ Own wm2 g (.slice (some ⟨g, 0, none⟩) 32 32) zero32 ∧ g < wm2.heap.size ∧ w4.heap.size ≤ g := ⟨wm0.heap.size, rfl, OM2, OM2.lt _ rfl, Nat.le_trans hq0 (Nat.le_of_lt hl0)⟩
        obtain ⟨g2, hg2, OO2, hl2, hq2⟩ := sm2
        refine hK.out _ _ trivial (fun hHeld => ?_)
        clear hK K
        try simp only [Act.put, List.getElem_toArray, List.getElem_cons_zero, List.getElem_cons_succ, List.setIfInBounds_toArray, List.set_cons_zero, List.set_cons_succ]
        refine wpAnyH_ready (rs := [1]) (by kernel_rfl) (by simp) ?_
        refine AllReadyH.cons (o := _) rfl (fun K hK => ?_) AllReadyH.nil
        rw [if_pos (by rfl)]
        refine wp_make_bytes _ _ 37 rfl j0 Try.underlying37 hj hy0 hy1 hy2 .i64 .i64 32 rfl rfl (by decide) ?_
        intro wm1 OM1 bm1
        have dm1 : Below w.heap.size w wm1 := belT dm2 bm1
        have sm1 : ∃ g, g = wm2.heap.size ∧ Own wm1 g (.slice (some ⟨g, 0, none⟩) 32 32) zero32 ∧ g < wm1.heap.size ∧ w4.heap.size ≤ g := ⟨wm2.heap.size, rfl, OM1, OM1.lt _ rfl, Nat.le_trans hq2 (Nat.le_of_lt hl2)⟩
        obtain ⟨g1, hg1, OO1, hl1, hq1⟩ := sm1
        refine hK.out _ _ trivial (fun hHeld => ?_)
        clear hK K
        try simp only [Act.put, List.getElem_toArray, List.getElem_cons_zero, List.getElem_cons_succ, List.setIfInBounds_toArray, List.set_cons_zero, List.set_cons_succ]
        refine wpAnyH_ready (rs := [3]) (by kernel_rfl) (by simp) ?_
        refine AllReadyH.cons (o := _) rfl (fun K hK => ?_) AllReadyH.nil
        go_simp
        have SZ0 : w.heap.size ≤ g0 := Nat.le_trans b4.size hq0
        have SZ2 : w.heap.size ≤ g2 := Nat.le_trans b4.size hq2
        have SZ1 : w.heap.size ≤ g1 := Nat.le_trans b4.size hq1
        have QD := OwnD.three (X := fun g => v4.ownBlock = some g) (own_mono (OO0.up (belT bm2 bm1)) SZ0) (own_mono OO1 SZ1) (own_mono (OO2.up bm1) SZ2) (by omega) (by omega) (by omega) (fun e => by have := O4.lt _ e; omega) (fun e => by have := O4.lt _ e; omega) (fun e => by have := O4.lt _ e; omega) (dm1.size)
        have PD : Own wm1 w.heap.size v4 l9 := O4.up (belT (belDr (belR _)) (belT bm0 (belT bm2 bm1)))
        subst hg0 hg1 hg2
        refine hK.out _ _ trivial (fun hHeld => ?_)
        clear hK K
        try simp only [Act.put, List.getElem_toArray, List.getElem_cons_zero, List.getElem_cons_succ, List.setIfInBounds_toArray, List.set_cons_zero, List.set_cons_succ]
        refine wpAnyH_take (i := 4) (oi := _) (v := ?_) rfl (by kernel_rfl) (by kernel_rfl) (by kernel_rfl) (fun _ _ _ h => h) (Or.inl ⟨by rfl, ?_⟩) (by assumption) ?_
        rotate_left
        · intro w hSw
          (try dsimp only at hSw)
          go_simp
          try with_reducible rfl
        try simp only [Act.put, List.getElem_toArray, List.getElem_cons_zero, List.getElem_cons_succ, List.setIfInBounds_toArray, List.set_cons_zero, List.set_cons_succ]
        refine wpAnyH_done (by kernel_rfl) ?_ _
        go_wp2
        go_meet
        case rel => exact ⟨QD, PD.up (belA1 (belR _)), belA1 dm1⟩
    · rw [if_pos (by rfl)]
      refine wp_make_bytes _ _ 37 rfl j0 Try.underlying37 hj hy0 hy1 hy2 .i64 .i64 32 rfl rfl (by decide) ?_
      intro wm1 OM1 bm1
      have dm1 : Below w.heap.size w wm1 := belT (belDr b4) bm1
      have sm1 : ∃ g, g = w4.heap.size ∧ Own wm1 g (.slice (some ⟨g, 0, none⟩) 32 32) zero32 ∧ g < wm1.heap.size ∧ w4.heap.size ≤ g := ⟨w4.heap.size, rfl, OM1, OM1.lt _ rfl, Nat.le_refl _⟩
      obtain ⟨g1, hg1, OO1, hl1, hq1⟩ := sm1
      refine hK.out _ _ trivial (fun hHeld => ?_)
      clear hK K
      try simp only [Act.put, List.getElem_toArray, List.getElem_cons_zero, List.getElem_cons_succ, List.setIfInBounds_toArray, List.set_cons_zero, List.set_cons_succ]
      refine wpAnyH_ready (rs := [0, 2]) (by kernel_rfl) (by simp) ?_
      refine AllReadyH.cons (o := _) rfl (fun K hK => ?_) (AllReadyH.cons (o := _) rfl (fun K hK => ?_) AllReadyH.nil)
      · rw [if_pos (by rfl)]
        refine wp_make_bytes _ _ 37 rfl j0 Try.underlying37 hj hy0 hy1 hy2 .i64 .i64 32 rfl rfl (by decide) ?_
        intro wm0 OM0 bm0
        have dm0 : Below w.heap.size w wm0 := belT dm1 bm0
        have sm0 : ∃ g, g = wm1.heap.size ∧ Own wm0 g (.slice (some ⟨g, 0, none⟩) 32 32) zero32 ∧ g < wm0.heap.size ∧ w4.heap.size ≤ g := ⟨wm1.heap.size, rfl, OM0, OM0.lt _ rfl, Nat.le_trans hq1 (Nat.le_of_lt hl1)⟩
        obtain ⟨g0, hg0, OO0, hl0, hq0⟩ := sm0
        refine hK.out _ _ trivial (fun hHeld => ?_)
        clear hK K
        try simp only [Act.put, List.getElem_toArray, List.getElem_cons_zero, List.getElem_cons_succ, List.setIfInBounds_toArray, List.set_cons_zero, List.set_cons_succ]
        refine wpAnyH_ready (rs := [2]) (by kernel_rfl) (by simp) ?_
        refine AllReadyH.cons (o := _) rfl (fun K hK => ?_) AllReadyH.nil
        rw [if_pos (by rfl)]
        refine wp_make_bytes _ _ 37 rfl j0 Try.underlying37 hj hy0 hy1 hy2 .i64 .i64 32 rfl rfl (by decide) ?_
        intro wm2 OM2 bm2
        have dm2 : Below w.heap.size w wm2 := belT dm0 bm2
        have sm2 : ∃ g, g = wm0.heap.size ∧ Own wm2 g (.slice (some ⟨g, 0, none⟩) 32 32) zero32 ∧ g < wm2.heap.size ∧ w4.heap.size ≤ g := ⟨wm0.heap.size, rfl, OM2, OM2.lt _ rfl, Nat.le_trans hq0 (Nat.le_of_lt hl0)⟩
        obtain ⟨g2, hg2, OO2, hl2, hq2⟩ := sm2
        refine hK.out _ _ trivial (fun hHeld => ?_)
        clear hK K
        try simp only [Act.put, List.getElem_toArray, List.getElem_cons_zero, List.getElem_cons_succ, List.setIfInBounds_toArray, List.set_cons_zero, List.set_cons_succ]
        refine wpAnyH_ready (rs := [3]) (by kernel_rfl) (by simp) ?_
        refine AllReadyH.cons (o := _) rfl (fun K hK => ?_) AllReadyH.nil
        go_simp
        have SZ1 : w.heap.size ≤ g1 := Nat.le_trans b4.size hq1
        have SZ0 : w.heap.size ≤ g0 := Nat.le_trans b4.size hq0
        have SZ2 : w.heap.size ≤ g2 := Nat.le_trans b4.size hq2
        have QD := OwnD.three (X := fun g => v4.ownBlock = some g) (own_mono (OO0.up bm2) SZ0) (own_mono (OO1.up (belT bm0 bm2)) SZ1) (own_mono OO2 SZ2) (by omega) (by omega) (by omega) (fun e => by have := O4.lt _ e; omega) (fun e => by have := O4.lt _ e; omega) (fun e => by have := O4.lt _ e; omega) (dm2.size)
        have PD : Own wm2 w.heap.size v4 l9 := O4.up (belT (belDr (belR _)) (belT bm1 (belT bm0 bm2)))
        subst hg0 hg1 hg2
        refine hK.out _ _ trivial (fun hHeld => ?_)
        clear hK K
        try simp only [Act.put, List.getElem_toArray, List.getElem_cons_zero, List.getElem_cons_succ, List.setIfInBounds_toArray, List.set_cons_zero, List.set_cons_succ]
        refine wpAnyH_take (i := 4) (oi := _) (v := ?_) rfl (by kernel_rfl) (by kernel_rfl) (by kernel_rfl) (fun _ _ _ h => h) (Or.inl ⟨by rfl, ?_⟩) (by assumption) ?_
        rotate_left
        · intro w hSw
          (try dsimp only at hSw)
          go_simp
          try with_reducible rfl
        try simp only [Act.put, List.getElem_toArray, List.getElem_cons_zero, List.getElem_cons_succ, List.setIfInBounds_toArray, List.set_cons_zero, List.set_cons_succ]
        refine wpAnyH_done (by kernel_rfl) ?_ _
        go_wp2
        go_meet
        case rel => exact ⟨QD, PD.up (belA1 (belR _)), belA1 dm2⟩
      · rw [if_pos (by rfl)]
        refine wp_make_bytes _ _ 37 rfl j0 Try.underlying37 hj hy0 hy1 hy2 .i64 .i64 32 rfl rfl (by decide) ?_
        intro wm2 OM2 bm2
        have dm2 : Below w.heap.size w wm2 := belT dm1 bm2
        have sm2 : ∃ g, g = wm1.heap.size ∧ Own wm2 g (.slice (some ⟨g, 0, none⟩) 32 32) zero32 ∧ g < wm2.heap.size ∧ w4.heap.size ≤ g := ⟨wm1.heap.size, rfl, OM2, OM2.lt _ rfl, Nat.le_trans hq1 (Nat.le_of_lt hl1)⟩
        obtain ⟨g2, hg2, OO2, hl2, hq2⟩ := sm2
        refine hK.out _ _ trivial (fun hHeld => ?_)
        clear hK K
        try simp only [Act.put, List.getElem_toArray, List.getElem_cons_zero, List.getElem_cons_succ, List.setIfInBounds_toArray, List.set_cons_zero, List.set_cons_succ]
        refine wpAnyH_ready (rs := [0]) (by kernel_rfl) (by simp) ?_
        refine AllReadyH.cons (o := _) rfl (fun K hK => ?_) AllReadyH.nil
        rw [if_pos (by rfl)]
        refine wp_make_bytes _ _ 37 rfl j0 Try.underlying37 hj hy0 hy1 hy2 .i64 .i64 32 rfl rfl (by decide) ?_
        intro wm0 OM0 bm0
        have dm0 : Below w.heap.size w wm0 := belT dm2 bm0
        have sm0 : ∃ g, g = wm2.heap.size ∧ Own wm0 g (.slice (some ⟨g, 0, none⟩) 32 32) zero32 ∧ g < wm0.heap.size ∧ w4.heap.size ≤ g := ⟨wm2.heap.size, rfl, OM0, OM0.lt _ rfl, Nat.le_trans hq2 (Nat.le_of_lt hl2)⟩
        obtain ⟨g0, hg0, OO0, hl0, hq0⟩ := sm0
        refine hK.out _ _ trivial (fun hHeld => ?_)
        clear hK K
        try simp only [Act.put, List.getElem_toArray, List.getElem_cons_zero, List.getElem_cons_succ, List.setIfInBounds_toArray, List.set_cons_zero, List.set_cons_succ]
        refine wpAnyH_ready (rs := [3]) (by kernel_rfl) (by simp) ?_
        refine AllReadyH.cons (o := _) rfl (fun K hK => ?_) AllReadyH.nil
        go_simp
        have SZ1 : w.heap.size ≤ g1 := Nat.le_trans b4.size hq1
        have SZ2 : w.heap.size ≤ g2 := Nat.le_trans b4.size hq2
        have SZ0 : w.heap.size ≤ g0 := Nat.le_trans b4.size hq0
        have QD := OwnD.three (X := fun g => v4.ownBlock = some g) (own_mono OO0 SZ0) (own_mono (OO1.up (belT bm2 bm0)) SZ1) (own_mono (OO2.up bm0) SZ2) (by omega) (by omega) (by omega) (fun e => by have := O4.lt _ e; omega) (fun e => by have := O4.lt _ e; omega) (fun e => by have := O4.lt _ e; omega) (dm0.size)
        have PD : Own wm0 w.heap.size v4 l9 := O4.up (belT (belDr (belR _)) (belT bm1 (belT bm2 bm0)))
        subst hg0 hg1 hg2
        refine hK.out _ _ trivial (fun hHeld => ?_)
        clear hK K
        try simp only [Act.put, List.getElem_toArray, List.getElem_cons_zero, List.getElem_cons_succ, List.setIfInBounds_toArray, List.set_cons_zero, List.set_cons_succ]
        refine wpAnyH_take (i := 4) (oi := _) (v := ?_) rfl (by kernel_rfl) (by kernel_rfl) (by kernel_rfl) (fun _ _ _ h => h) (Or.inl ⟨by rfl, ?_⟩) (by assumption) ?_
        rotate_left
        · intro w hSw
          (try dsimp only at hSw)
          go_simp
          try with_reducible rfl
        try simp only [Act.put, List.getElem_toArray, List.getElem_cons_zero, List.getElem_cons_succ, List.setIfInBounds_toArray, List.set_cons_zero, List.set_cons_succ]
        refine wpAnyH_done (by kernel_rfl) ?_ _
        go_wp2
        go_meet
        case rel => exact ⟨QD, PD.up (belA1 (belR _)), belA1 dm0⟩
    · rw [if_pos (by rfl)]
      refine wp_make_bytes _ _ 37 rfl j0 Try.underlying37 hj hy0 hy1 hy2 .i64 .i64 32 rfl rfl (by decide) ?_
      intro wm2 OM2 bm2
      have dm2 : Below w.heap.size w wm2 := belT (belDr b4) bm2
      have sm2 : ∃ g, g = w4.heap.size ∧ Own wm2 g (.slice (some ⟨g, 0, none⟩) 32 32) zero32 ∧ g < wm2.heap.size ∧ w4.heap.size ≤ g := ⟨w4.heap.size, rfl, OM2, OM2.lt _ rfl, Nat.le_refl _⟩
      obtain ⟨g2, hg2, OO2, hl2, hq2⟩ := sm2
      refine hK.out _ _ trivial (fun hHeld => ?_)
      clear hK K
      try simp only [Act.put, List.getElem_toArray, List.getElem_cons_zero, List.getElem_cons_succ, List.setIfInBounds_toArray, List.set_cons_zero, List.set_cons_succ]
      refine wpAnyH_ready (rs := [0, 1]) (by kernel_rfl) (by simp) ?_
      refine AllReadyH.cons (o := _) rfl (fun K hK => ?_) (AllReadyH.cons (o := _) rfl (fun K hK => ?_) AllReadyH.nil)
      · rw [if_pos (by rfl)]
        refine wp_make_bytes _ _ 37 rfl j0 Try.underlying37 hj hy0 hy1 hy2 .i64 .i64 32 rfl rfl (by decide) ?_
        intro wm0 OM0 bm0
        have dm0 : Below w.heap.size w wm0 := belT dm2 bm0
        have sm0 : ∃ g, g = wm2.heap.size ∧ Own wm0 g (.slice (some ⟨g, 0, none⟩) 32 32) zero32 ∧ g < wm0.heap.size ∧ w4.heap.size ≤ g := ⟨wm2.heap.size, rfl, OM0, OM0.lt _ rfl, Nat.le_trans hq2 (Nat.le_of_lt hl2)⟩
        obtain ⟨g0, hg0, OO0, hl0, hq0⟩ := sm0
        refine hK.out _ _ trivial (fun hHeld => ?_)
        clear hK K
        try simp only [Act.put, List.getElem_toArray, List.getElem_cons_zero, List.getElem_cons_succ, List.setIfInBounds_toArray, List.set_cons_zero, List.set_cons_succ]
        refine wpAnyH_ready (rs := [1]) (by kernel_rfl) (by simp) ?_
        refine AllReadyH.cons (o := _) rfl (fun K hK => ?_) AllReadyH.nil
        rw [if_pos (by rfl)]
        refine wp_make_bytes _ _ 37 rfl j0 Try.underlying37 hj hy0 hy1 hy2 .i64 .i64 32 rfl rfl (by decide) ?_
        intro wm1 OM1 bm1
        have dm1 : Below w.heap.size w wm1 := belT dm0 bm1
        have sm1 : ∃ g, g = wm0.heap.size ∧ Own wm1 g (.slice (some ⟨g, 0, none⟩) 32 32) zero32 ∧ g < wm1.heap.size ∧ w4.heap.size ≤ g := ⟨wm0.heap.size, rfl, OM1, OM1.lt _ rfl, Nat.le_trans hq0 (Nat.le_of_lt hl0)⟩
        obtain ⟨g1, hg1, OO1, hl1, hq1⟩ := sm1
        refine hK.out _ _ trivial (fun hHeld => ?_)
        clear hK K
        try simp only [Act.put, List.getElem_toArray, List.getElem_cons_zero, List.getElem_cons_succ, List.setIfInBounds_toArray, List.set_cons_zero, List.set_cons_succ]
        refine wpAnyH_ready (rs := [3]) (by kernel_rfl) (by simp) ?_
        refine AllReadyH.cons (o := _) rfl (fun K hK => ?_) AllReadyH.nil
        go_simp
        have SZ2 : w.heap.size ≤ g2 := Nat.le_trans b4.size hq2
        have SZ0 : w.heap.size ≤ g0 := Nat.le_trans b4.size hq0
        have SZ1 : w.heap.size ≤ g1 := Nat.le_trans b4.size hq1
        have QD := OwnD.three (X := fun g => v4.ownBlock = some g) (own_mono (OO0.up bm1) SZ0) (own_mono OO1 SZ1) (own_mono (OO2.up (belT bm0 bm1)) SZ2) (by omega) (by omega) (by omega) (fun e => by have := O4.lt _ e; omega) (fun e => by have := O4.lt _ e; omega) (fun e => by have := O4.lt _ e; omega) (dm1.size)
        have PD : Own wm1 w.heap.size v4 l9 := O4.up (belT (belDr (belR _)) (belT bm2 (belT bm0 bm1)))
        subst hg0 hg1 hg2
        refine hK.out _ _ trivial (fun hHeld => ?_)
        clear hK K
        try simp only [Act.put, List.getElem_toArray, List.getElem_cons_zero, List.getElem_cons_succ, List.setIfInBounds_toArray, List.set_cons_zero, List.set_cons_succ]
        refine wpAnyH_take (i := 4) (oi := _) (v := ?_) rfl (by kernel_rfl) (by kernel_rfl) (by kernel_rfl) (fun _ _ _ h => h) (Or.inl ⟨by rfl, ?_⟩) (by assumption) ?_
        rotate_left
        · intro w hSw
          (try dsimp only at hSw)
          go_simp
          try with_reducible rfl
        try simp only [Act.put, List.getElem_toArray, List.getElem_cons_zero, List.getElem_cons_succ, List.setIfInBounds_toArray, List.set_cons_zero, List.set_cons_succ]
        refine wpAnyH_done (by kernel_rfl) ?_ _
        go_wp2
        go_meet
        case rel => exact ⟨QD, PD.up (belA1 (belR _)), belA1 dm1⟩
      · rw [if_pos (by rfl)]
        refine wp_make_bytes _ _ 37 rfl j0 Try.underlying37 hj hy0 hy1 hy2 .i64 .i64 32 rfl rfl (by decide) ?_
        intro wm1 OM1 bm1
        have dm1 : Below w.heap.size w wm1 := belT dm2 bm1
        have sm1 : ∃ g, g = wm2.heap.size ∧ Own wm1 g (.slice (some ⟨g, 0, none⟩) 32 32) zero32 ∧ g < wm1.heap.size ∧ w4.heap.size ≤ g := ⟨wm2.heap.size, rfl, OM1, OM1.lt _ rfl, Nat.le_trans hq2 (Nat.le_of_lt hl2)⟩
        obtain ⟨g1, hg1, OO1, hl1, hq1⟩ := sm1
        refine hK.out _ _ trivial (fun hHeld => ?_)
        clear hK K
        try simp only [Act.put, List.getElem_toArray, List.getElem_cons_zero, List.getElem_cons_succ, List.setIfInBounds_toArray, List.set_cons_zero, List.set_cons_succ]
        refine wpAnyH_ready (rs := [0]) (by kernel_rfl) (by simp) ?_
        refine AllReadyH.cons (o := _) rfl (fun K hK => ?_) AllReadyH.nil
        rw [if_pos (by rfl)]
        refine wp_make_bytes _ _ 37 rfl j0 Try.underlying37 hj hy0 hy1 hy2 .i64 .i64 32 rfl rfl (by decide) ?_
        intro wm0 OM0 bm0
        have dm0 : Below w.heap.size w wm0 := belT dm1 bm0
        have sm0 : ∃ g, g = wm1.heap.size ∧ Own wm0 g (.slice (some ⟨g, 0, none⟩) 32 32) zero32 ∧ g < wm0.heap.size ∧ w4.heap.size ≤ g := ⟨wm1.heap.size, rfl, OM0, OM0.lt _ rfl, Nat.le_trans hq1 (Nat.le_of_lt hl1)⟩
        obtain ⟨g0, hg0, OO0, hl0, hq0⟩ := sm0
        refine hK.out _ _ trivial (fun hHeld => ?_)
        clear hK K
        try simp only [Act.put, List.getElem_toArray, List.getElem_cons_zero, List.getElem_cons_succ, List.setIfInBounds_toArray, List.set_cons_zero, List.set_cons_succ]
        refine wpAnyH_ready (rs := [3]) (by kernel_rfl) (by simp) ?_
        refine AllReadyH.cons (o := _) rfl (fun K hK => ?_) AllReadyH.nil
        go_simp
        have SZ2 : w.heap.size ≤ g2 := Nat.le_trans b4.size hq2
        have SZ1 : w.heap.size ≤ g1 := Nat.le_trans b4.size hq1
        have SZ0 : w.heap.size ≤ g0 := Nat.le_trans b4.size hq0
        have QD := OwnD.three (X := fun g => v4.ownBlock = some g) (own_mono OO0 SZ0) (own_mono (OO1.up bm0) SZ1) (own_mono (OO2.up (belT bm1 bm0)) SZ2) (by omega) (by omega) (by omega) (fun e => by have := O4.lt _ e; omega) (fun e => by have := O4.lt _ e; omega) (fun e => by have := O4.lt _ e; omega) (dm0.size)
        have PD : Own wm0 w.heap.size v4 l9 := O4.up (belT (belDr (belR _)) (belT bm2 (belT bm1 bm0)))
        subst hg0 hg1 hg2
        refine hK.out _ _ trivial (fun hHeld => ?_)
        clear hK K
        try simp only [Act.put, List.getElem_toArray, List.getElem_cons_zero, List.getElem_cons_succ, List.setIfInBounds_toArray, List.set_cons_zero, List.set_cons_succ]
        refine wpAnyH_take (i := 4) (oi := _) (v := ?_) rfl (by kernel_rfl) (by kernel_rfl) (by kernel_rfl) (fun _ _ _ h => h) (Or.inl ⟨by rfl, ?_⟩) (by assumption) ?_
        rotate_left
        · intro w hSw
          (try dsimp only at hSw)
          go_simp
          try with_reducible rfl
        try simp only [Act.put, List.getElem_toArray, List.getElem_cons_zero, List.getElem_cons_succ, List.setIfInBounds_toArray, List.set_cons_zero, List.set_cons_succ]
        refine wpAnyH_done (by kernel_rfl) ?_ _
        go_wp2
        go_meet
        case rel => exact ⟨QD, PD.up (belA1 (belR _)), belA1 dm0⟩
  obtain ⟨Q4, P4, B4⟩ := hcut
  clear O4 b4
  obtain ⟨a7, c7, e7, _, _⟩ := Q4.shape
  have e7' : u7 = .slice a7 3 c7 := e7
  clear e7
  subst e7'
  go_wp2
  go_loopw [6, 30] (fun a i W => ∃ k : Nat, k ≤ n ∧ i = .int .i64 k ∧ Own W w.heap.size a (l9 ++ (l.take k).flatMap rplace) ∧ OwnD W w.heap.size (.slice a7 3 c7) ((l.take k).map RI.b ++ List.replicate (3 - k) zero32) (fun g => a.ownBlock = some g) ∧ Below w.heap.size w W) (fun _ i _ => n - (intOf i).toNat)
  case atStart => exact ⟨0, Nat.zero_le _, rfl, by simpa using P4, Q4, B4⟩
  case round =>
    clear P4 Q4 B4
    obtain ⟨k, hk, rfl, O5, O6, B⟩ := hrel
    have P5 : Hid ((l9 ++ (l.take k).flatMap rplace).length = 9 + 2 * k) := by show _ = _; rw [List.length_append, L9.out, rplace_len, List.length_take, ← HN.out]; omega
    by_cases hlt : k < n
    · obtain ⟨b, off, x, u, rfl, hbl, hx, hit⟩ := Items.get HI.out hlt
      have hxf := hfine.out x (List.mem_of_getElem? hx.out)
      obtain ⟨f1, f2, f3⟩ := (RI.fine_iff x).1 hxf
      obtain ⟨xd, xa, xb⟩ := x
      dsimp only at *
      obtain ⟨dn, rfl⟩ := Int.eq_ofNat_of_zero_le f1.1
      obtain ⟨an, rfl⟩ := Int.eq_ofNat_of_zero_le (show 0 ≤ xa by omega)
      have f1' : (dn : Int) ≤ 7 := f1.2
      have f2' : (an : Int) ≤ 51 := f2.2
      obtain ⟨au, cu, rfl, hu1, hu2⟩ := hit.2.2.2.1.shapeN f3
      have HIT : Hid (∀ W, Below w.heap.size w W → Itm W b (off + k * 3) ⟨dn, an, xb⟩ (.slice au 32 cu)) := fun W hW => hit.up hW hbl
      have HX3 := Lib.hid f3
      clear hit hxf f1 f2 f3
      obtain ⟨e0, e1, e2, ey, _⟩ := HIT.out _ B
      have ey := Lib.hid ey
      go_wp2_with (first
        | (at_builtin; go_loud (refine wpList_append_bytes_pl rfl (.tmp 35) (.tmp 42) 37 rfl j0 Try.underlying37 hj hy0 hy1 hy2 w.heap.size u6 _ rfl (O5.up (belA2 (belR _))) _ _ _ _ [dn % 256, an % 256] rfl (Byt.lit _ _ _ _ (by simp) rfl (by simp [u8v]; omega) (by intro x hx; simp at hx; omega) (by simp)) (by rw [P5.out]; simp; omega) (by have := B.size; simp; omega) ?_); intro v5 w5 O5' g5 p5; have B5 : Below w.heap.size w w5 := belG (belA2 B) g5 (fun g hg => O5.ge g hg); have e2' : w5.cell? ⟨wr.heap.size, 2, none⟩ = some (.slice au 32 cu) := cell_grown (by exact box_up (belA1 (belR _)) 2 rfl) (by simp; omega) g5 (fun e => by have := O5.lt _ e; omega);
            have O6' := ((O6.mono (Y := fun g => u6.ownBlock = some g ∨ g = wr.heap.size) (Nat.le_refl _) (fun g hg hy => hy.elim id (fun e => by omega))).up (belA2 (belR _))).growX (X' := fun g => v5.ownBlock = some g ∨ g = wr.heap.size) (O5.up (belA2 (belR _))) g5 (fun g hg => .inl hg) (fun g hg => hg.elim (fun e => (p5 g e).imp .inl id) (fun e => .inl (.inr e))); have ey5 := (HIT.out w5 B5).2.2.2.1; have B5' := Lib.hid B5)
        | fail)
      have hlen3 : Hid (((l.take k).map RI.b ++ List.replicate (3 - k) zero32).length = 3) := by show _ = _; rw [List.length_append, List.length_map, List.length_take, List.length_replicate, ← HN.out]; omega
      obtain ⟨rb, ro, c, p, rfl, hcr, hp, hoc, hset, hne1, hlt1, hne2⟩ := (O6'.up (belDr (belR _))).get (k := k) (by rw [hlen3.out]; omega)
      have hpz : p = zero32 := by
        have h9 := hp.out
        rw [List.getElem?_append_right (by rw [List.length_map, List.length_take]; omega)] at h9
        have h10 := List.mem_of_getElem? h9
        exact List.eq_of_mem_replicate h10
      subst hpz
      obtain ⟨ac, cc, rfl, _, _⟩ := hoc.byt.shapeN (show zero32.length = 32 from rfl)
      clear hp
      have hk3 : (k : Int) < 3 := by omega
      go_wp2_with fail
      refine wp_region_held_drew (S := fun W => W.cell? ⟨rb, ro + k, none⟩ = some (.slice ac 32 cc) ∧ W.cell? ⟨wr.heap.size, 2, none⟩ = some (.slice au 32 cu)) (by kernel_rfl) (show World.cell? _ _ = _ ∧ World.cell? _ _ = _ from ⟨hcr, e2'⟩) (fun hHeld => ?_)
      refine wpAnyH_take (i := 0) (oi := _) (v := ?_) rfl (by kernel_rfl) (by kernel_rfl) (by kernel_rfl) (fun _ _ _ h => h) (Or.inl ⟨by rfl, ?_⟩) (by assumption) ?_
      rotate_left
      · intro w hSw
        (try dsimp only at hSw)
        go_simp
        try with_reducible rfl
      try simp only [Act.put, List.getElem_toArray, List.getElem_cons_zero, List.getElem_cons_succ, List.setIfInBounds_toArray, List.set_cons_zero, List.set_cons_succ]
      refine wpAnyH_take (i := 1) (oi := _) (v := ?_) rfl (by kernel_rfl) (by kernel_rfl) (by kernel_rfl) (fun _ _ _ h => h) (Or.inl ⟨by rfl, ?_⟩) (by assumption) ?_
      rotate_left
      · intro w hSw
        (try dsimp only at hSw)
        go_simp
        try with_reducible rfl
      try simp only [Act.put, List.getElem_toArray, List.getElem_cons_zero, List.getElem_cons_succ, List.setIfInBounds_toArray, List.set_cons_zero, List.set_cons_succ]
      refine wpAnyH_take (i := 4) (oi := _) (v := ?_) rfl (by kernel_rfl) (by kernel_rfl) (by kernel_rfl) (fun _ _ _ h => h) (Or.inl ⟨by rfl, ?_⟩) (by assumption) ?_
      rotate_left
      · intro w hSw
        (try dsimp only at hSw)
        go_simp
        try with_reducible rfl
      try simp only [Act.put, List.getElem_toArray, List.getElem_cons_zero, List.getElem_cons_succ, List.setIfInBounds_toArray, List.set_cons_zero, List.set_cons_succ]
      refine wpAnyH_take (i := 2) (oi := _) (v := ?_) rfl (by kernel_rfl) (by kernel_rfl) (by kernel_rfl) (fun _ _ _ h => h) (Or.inl ⟨by rfl, ?_⟩) (by assumption) ?_
      rotate_left
      · intro w hSw
        (try dsimp only at hSw)
        go_simp
        try with_reducible rfl
      try simp only [Act.put, List.getElem_toArray, List.getElem_cons_zero, List.getElem_cons_succ, List.setIfInBounds_toArray, List.set_cons_zero, List.set_cons_succ]
      refine wpAnyH_take (i := 5) (oi := _) (v := ?_) rfl (by kernel_rfl) (by kernel_rfl) (by kernel_rfl) (fun _ _ _ h => h) (Or.inl ⟨by rfl, ?_⟩) (by assumption) ?_
      rotate_left
      · intro w hSw
        (try dsimp only at hSw)
        go_simp
        try with_reducible rfl
      try simp only [Act.put, List.getElem_toArray, List.getElem_cons_zero, List.getElem_cons_succ, List.setIfInBounds_toArray, List.set_cons_zero, List.set_cons_succ]
      refine wpAnyH_take (i := 3) (oi := _) (v := ?_) rfl (by kernel_rfl) (by kernel_rfl) (by kernel_rfl) (fun _ _ _ h => h) (Or.inl ⟨by rfl, ?_⟩) (by assumption) ?_
      rotate_left
      · intro w hSw
        (try dsimp only at hSw)
        go_simp
        try with_reducible rfl
      try simp only [Act.put, List.getElem_toArray, List.getElem_cons_zero, List.getElem_cons_succ, List.setIfInBounds_toArray, List.set_cons_zero, List.set_cons_succ]
      refine wpAnyH_ready (rs := [6]) (by kernel_rfl) (by simp) ?_
      refine AllReadyH.cons (o := _) rfl (fun K hK => ?_) AllReadyH.nil
      rw [if_pos (by rfl)]
      refine wp_copy_full _ _ 37 37 rfl Try.underlying37 HJ.out (.slice ac 32 cc) (.slice au 32 cu) rfl rfl w.heap.size zero32 xb hoc (ey5.up (belDr (belR _))) (by rw [HX3.out]; rfl) (by rw [HX3.out]; decide) ?_
      intro w6 OC g6
      have hset6 := hset w6 xb OC g6
      have e2d : w5.drew.cell? ⟨wr.heap.size, 2, none⟩ = some (.slice au 32 cu) := e2'
      have hk1 : w6.cell? ⟨rb, ro + k, none⟩ = some (.slice ac 32 cc) ∧ w6.cell? ⟨wr.heap.size, 2, none⟩ = some (.slice au 32 cu) := ⟨cell_grown hcr hlt1 g6 hne1, cell_grown e2d (AtoiLt e2d) g6 (fun e => hne2 _ e (.inr rfl))⟩
      refine hK.out _ _ (show World.cell? _ _ = _ ∧ World.cell? _ _ = _ from hk1) (fun hHeld => ?_)
      clear hK K
      try simp only [Act.put, List.getElem_toArray, List.getElem_cons_zero, List.getElem_cons_succ, List.setIfInBounds_toArray, List.set_cons_zero, List.set_cons_succ]
      refine wpAnyH_done (by kernel_rfl) ?_ _
      go_wp2
      go_roundw
      case rel =>
        refine ⟨k + 1, by omega, by go_num, ?_, ?_, belG (belDr B5'.out) g6 (fun g hg => hoc.ge g hg)⟩
        · rw [take_succ_get hx.out, List.flatMap_append]
          have := (O5'.up (belDr (belR _))).keep g6 (fun g hg hcg => hne2 g hcg (.inl hg))
          simpa [rplace] using this
        · have h9 : (List.map RI.b (List.take k l) ++ List.replicate (3 - k) zero32).set k xb = List.map RI.b (List.take (k + 1) l) ++ List.replicate (3 - (k + 1)) zero32 := by
            rw [take_succ_get hx.out, List.map_append, List.set_append_right _ _ (by rw [List.length_map, List.length_take]; omega), List.length_map, List.length_take, Nat.min_eq_left (by rw [← HN.out]; omega), Nat.sub_self, show 3 - k = (3 - (k + 1)) + 1 by omega, List.replicate_succ, List.set_cons_zero, List.append_assoc]
            rfl
          rw [h9] at hset6
          exact hset6.mono (Nat.le_refl _) (fun g _ hg => .inl hg)
      case measure => simp [intOf]; omega
    · obtain rfl : k = n := by omega
      have hlk : l.take k = l := List.take_of_length_le (by rw [← HN.out]; exact Nat.le_refl _)
      rw [hlk] at O5 O6 P5
      clear hlk
      obtain ⟨m, hm⟩ : ∃ m, m = 9 + 2 * k := ⟨_, rfl⟩
      have hm15 : m ≤ 15 := by omega
      rw [← hm] at P5 HE
      clear hm
      obtain ⟨ao5, cap5, rfl, h5a, h5b⟩ := O5.byt.shapeN P5.out
      have QL : Hid ((l.map RI.b ++ List.replicate (3 - k) zero32).length = 3) := by show _ = _; rw [List.length_append, List.length_map, List.length_replicate, ← HN.out]; omega
      have QZ : Hid ((l9 ++ l.flatMap rplace ++ List.replicate (32 - m) 0).length = 32) := by show _ = _; rw [List.length_append, P5.out, List.length_replicate]; omega
      go_wp2_with (first
        | (go_at_call 39; refine Calls.mono (full_any _ m _ _ _ w.heap.size O5 (by omega) B.size) ?_; rintro e w7 ⟨v7, rfl, O7, g7x⟩; have B7 : Below w.heap.size w w7 := belG B g7x (fun g hg => O5.ge g hg); have Q7 := Lib.hid (O6.grown O5 g7x); have QP := Lib.hid Q7.out.parts)
        | (go_at_call 28; refine Calls.mono (sealed_any _ _ _ _ _ O7.byt QZ.out QP.out (by rw [QL.out]; decide)) ?_; rintro e w8 ⟨v8, rfl, O8, b8⟩; have B8 : Below w.heap.size w w8 := belT B7 b8; have Q8 : OwnD w8 w.heap.size _ _ (fun g => v8.ownBlock = some g) := (Q7.out.mono (Nat.le_refl _) (fun g hg hy => by have := O8.ge g hy; omega)).up b8; obtain ⟨a8, c8, rfl, _, _⟩ := O8.byt.shapeN (sealed_len _ QZ.out))
        | (at_builtin; go_loud (refine wpList_append_rowsD rfl (.tmp 56) (.tmp 57) 27 rfl i0 Try.underlying27 hi hz0 hz1 hz2 w.heap.size w8 _ (.slice a8 32 c8) _ rfl rfl rfl (own_mono O8 B7.size) _ _ rfl Q8 (by rw [QL.out]; omega) (by rw [QL.out]; omega) B8.size ?_); intro v9 w9 O9 g9))
      go_ret2
      refine ⟨_, rfl, ?_, belG (v := .slice (some ⟨w8.heap.size, 0, none⟩) 1 1) (belA1 B8) g9 (fun g hg => by cases hg; exact B8.size)⟩
      rw [HE.out]
      exact O9
end Go.Proofs.Ytgnnkglmlopldaa
