/- The walk of log.Apply. -/
import Derived.Test.YtenjpldinnbcbaaLaW
import Derived.Deep.CutRange
import Derived.Deep.RegionHeld3
namespace Go.Proofs.Ytenjpldinnbcbaa
open Go.RowKit C
set_option linter.unusedVariables false
set_option linter.unusedSimpArgs false
set_option maxRecDepth 100000
set_option maxHeartbeats 2000000

/-- behind some items -/
def AX (w : World) (base g : Nat) (lv : Value) (hs : List (Nat × Value)) (c : B.Bn) (ov : Value) (T : List Nat) (X : World) : Prop :=
  ∃ hs', IsBench X base g lv hs' c ∧ Fr (ofB g lv hs) w X ∧ (∀ y, ofB g lv hs' y → ofB g lv hs y ∨ w.heap.size ≤ y) ∧ OwnZ X w.heap.size ov T ∧ ∀ y, ov.ownBlock = some y → ¬ ofB g lv hs' y
theorem AX.up {w : World} {base g : Nat} {lv : Value} {hs : List (Nat × Value)} {c : B.Bn} {ov : Value} {T : List Nat} {X Y : World} (h : AX w base g lv hs c ov T X) (k : Below X.heap.size X Y) : AX w base g lv hs c ov T Y := by
  obtain ⟨hs', I, F, q, O, d⟩ := h
  exact ⟨hs', I.up k, F.trans (Fr.of_below k), q, O.up k, d⟩
theorem AX.write {w : World} {base g : Nat} {lv : Value} {hs hs1 hs2 : List (Nat × Value)} {c : B.Bn} {ov : Value} {T : List Nat} {X Y : World} (F : Fr (ofB g lv hs) w X) (q : ∀ y, ofB g lv hs1 y → ofB g lv hs y ∨ w.heap.size ≤ y) (O : OwnZ X w.heap.size ov T) (d : ∀ y, ov.ownBlock = some y → ¬ ofB g lv hs1 y)
    (I2 : IsBench Y base g lv hs2 c) (F2 : Fr (ofB g lv hs1) X Y) (q2 : ∀ y, ofB g lv hs2 y → ofB g lv hs1 y ∨ X.heap.size ≤ y) : AX w base g lv hs c ov T Y := by
  have hsz := F.size
  refine ⟨hs2, I2, F.transN F2 q, fun y hy => ?_, O.fr F2 d, fun y hy h => ?_⟩
  · rcases q2 y hy with h | h
    · exact q y h
    · exact .inr (by omega)
  · rcases q2 y h with h | h
    · exact d y hy h
    · have := O.lts y hy; omega
theorem AX.append {w : World} {base g : Nat} {lv : Value} {hs : List (Nat × Value)} {c : B.Bn} {ov v' : Value} {T T' : List Nat} {X Y : World} (h : AX w base g lv hs c ov T X) (O : OwnZ Y w.heap.size v' T') (k : X.grownBy Y ov.ownBlock) (hp : ∀ y, v'.ownBlock = some y → ov.ownBlock = some y ∨ X.heap.size ≤ y) : AX w base g lv hs c v' T' Y := by
  obtain ⟨hs', I, F, q, O0, d⟩ := h
  have F2 := Fr.grown k
  refine ⟨hs', I.fr F2 (fun x hx e => d x e hx), F.transN F2 (fun y hy => .inr (O0.ge y hy)), q, O, fun y hy h => ?_⟩
  rcases hp y hy with h1 | h1
  · exact d y h1 h
  · have := I.lts y h; omega
theorem wpList_append_int_pl {P : Program} {w : World} {ops : Array Oper} {rest : List Oper} {o : Oper} {a : Act} {Q : Exit → Act → World → Prop} (hgd : o.guard = none) (s x : Operand) (t : TypeId)
    (ho : o.op = .call { callee := .builtin .append, args := #[s, x], argTypes := #[t, t] })
    (i : TypeInfo) (ht : P.underlying t = some (.slice 3)) (hi : P.info? 3 = some i) (hz : i.zero = some (.int .i64 0)) (hsize : i.size = 1) (hby : i.bytes = 8)
    (base : Nat) (v : Value) (T : List Nat) (hs : a.eval s = v) (hown : OwnZ w base v T) (g m c : Nat) (q : Nat) (hx : a.eval x = .slice (some ⟨g, 0, none⟩) m c) (hm : m = 1)
    (hnews : w.cell? ⟨g, 0, none⟩ = some (.int .i64 (q : Int)))
    (h63 : T.length + 1 ≤ 1048576) (hbase : base ≤ w.heap.size)
    (h : ∀ v' w', OwnZ w' base v' (T ++ [q]) → w.grownBy w' v.ownBlock → (∀ b, v'.ownBlock = some b → v.ownBlock = some b ∨ w.heap.size ≤ b) → wpList P ops Q rest (a.put o.dst v') w') : wpList P ops Q (o :: rest) a w :=
  wpList_plain hgd fun _ hK => by
    subst hm
    have hn' : ∀ j u, ([q].map natv)[j]? = some u → w.cell? ((⟨g, 0, none⟩ : Addr).add j) = some u := by
      intro j u hu
      have hj : j < 1 := by have := (List.getElem?_eq_some_iff.1 hu).1; simpa using this
      have : j = 0 := by omega
      subst this
      rw [Addr.add_mid, Nat.zero_add, hnews]
      simpa [natv] using hu
    obtain ⟨v', w', hr, h2, h3, _⟩ := run_append_own (P := P) w base t o.type 3 i (.int .i64 0) 1 8 ht hi hz hsize hby rfl (by decide) v T.length (T.map natv) hown ⟨g, 0, none⟩ 1 c ([q].map natv) (by simp) hn' (by intro u hu; simp at hu; subst hu; rfl) (by simp only [maxLen]; omega) (by omega) hbase
    have h7 := append_place base t o.type 3 i (.int .i64 0) 1 8 ht hi hz hsize hby rfl (by decide) v T.length (T.map natv) hown ⟨g, 0, none⟩ 1 c ([q].map natv) (by simp) hn' (by intro u hu; simp at hu; subst hu; rfl) (by simp only [maxLen]; omega) (by omega) hr
    unfold Oper.wp execOp
    simp only [ho, resolve, invoke, builtin, Sem.run_bind, Sem.run_pure, Result.andThen_ok, List.map_toArray, List.map_cons, List.map_nil, hs, hx, hr]
    refine hK _ _ (h v' w' ?_ h3 h7)
    show World.ownsRow _ _ _ _ _ _ _
    rw [List.length_append, List.map_append]; exact h2
attribute [local irreducible] Go.Calls Byt Own Parts PA BA Bools OwnD OwnT OwnZ Items IA
theorem lapply_yes (w : World) (base g : Nat) (lv : Value) (hs : List (Nat × Value)) (b : B.Bn) (vv : Value) (lvs : List Bool) (s : Int) (v : Value) (l : List RI) (h : IsBench w base g lv hs b) (hU : B.Pw b) (hb0 : base ≤ w.heap.size) (hL : BA (ofB g lv hs) w vv lvs) (hI : IA (ofB g lv hs) w v l) (hk : rok s l = true)
    (hn : b.ds.length ≤ 8) (hp : ∀ d ∈ b.ds, d.p.length ≤ 1000000) (hw : 0 ≤ b.writes ∧ b.writes ≤ 1000000000) :
    Calls Try.prog 35 #[.pointer (some ⟨g, 0, none⟩), vv, .agg #[.int .i64 s, v]] w fun r w' => r = .returned (.int .i64 0) ∧ ∃ hs', IsBench w' base g lv hs' (B.applyB b lvs l) ∧ Fr (ofB g lv hs) w w' ∧ ∀ y, ofB g lv hs' y → ofB g lv hs y ∨ w.heap.size ≤ y := by
  obtain ⟨j0, hi0, hz0, hz1, hz2⟩ := info_parts int_inf
  obtain ⟨hsr, hn3, _⟩ := (rok_iff s l).1 hk
  have HF := Lib.hid (rok_fine hk)
  have HBY := Lib.hid hI.items.bytes
  have HE := fun (o : Obj) => rcheck_any s v l (w.alloc o) (by unfold i64b; omega) (hI.items.up (belA1 (belR _)))
  rw [rerr_yes hk] at HE
  have HE := Lib.hid HE
  obtain ⟨ai, ci, rfl, _, _⟩ := hI.items.shape
  obtain ⟨M, hM⟩ : ∃ M, M = l.length := ⟨_, rfl⟩
  rw [← hM] at HE hI hn3 ⊢
  have HM := Lib.hid hM
  have HI := Lib.hid hI
  have HB := Lib.hid h
  have HU := Lib.hid hU
  have HV := Lib.hid hL
  have HPW := Lib.hid (And.intro hp hw)
  have HB0 := Lib.hid hb0
  obtain ⟨N, hN⟩ : ∃ N, N = b.ds.length := ⟨_, rfl⟩
  have HN := Lib.hid hN
  have hN8 : N ≤ 8 := by omega
  have SPEC : Hid (∀ k, _) := Lib.hid (fun (k : Nat) => B.aF_spec hU lvs (l.take k) (fun x hx => HF.out x (List.mem_of_mem_take hx)) (fun x hx => HBY.out x (List.mem_of_mem_take hx)))
  rw [← hN] at SPEC
  have S0 : Hid (∀ o Y, Below (w.alloc o).heap.size (w.alloc o) Y → AX w base g lv hs b (.slice none 0 0) [] Y) := Lib.hid (fun o Y hY => ⟨hs, (h.up (belA1 (belR _))).up hY, (Fr.alloc w o).trans (Fr.of_below hY), fun y hy => .inl hy, OwnZ.nil _ _, fun y hy => by cases hy⟩)
  clear h hU hL hI hk hM hp hw hsr hn hN hb0
  go_enter Try.func35, Try.ntmps35
  go_wp2_with fail
  refine Calls.mono (HE.out _) ?_
  rintro r w2 ⟨rfl, b2⟩
  have S2 := Lib.hid (S0.out _ _ b2)
  have hbx := ((Box.new w [.int .i64 s, .slice ai M ci] 59).fr (Fr.of_below (S := fun _ => False) b2) id).two.1
  obtain ⟨c0, c1⟩ := hbx
  clear b2 S0
  go_wp2
  go_loopw [8, 20] (fun ov kv X => ∃ k : Nat, k ≤ M ∧ kv = .int .i64 k ∧ Hid (AX w base g lv hs (B.aF N lvs b (l.take k)) ov (B.onA N lvs (l.take k)) X)) (fun _ kv _ => M - (intOf kv).toNat)
  case atStart => exact ⟨0, Nat.zero_le _, rfl, S2⟩
  case round =>
    clear c0 c1
    obtain ⟨k, hkM, rfl, HS⟩ := hrel
    by_cases hlt : k < M
    · have k1 : (k : Int) < (M : Int) := by omega
      have k0 : (0 : Int) ≤ (k : Int) := by omega
      have k2 : IntKind.i64.wrap ((k : Int) + 1) = ((k + 1 : Nat) : Int) := by rw [IntKind.wrap_i64]; omega
      have HKL := Lib.hid hlt
      obtain ⟨hs1, I1, F1, q1, O1, d1⟩ := HS.out
      obtain ⟨ib, io, x, u, hai, hil, hix, hit, hux⟩ := (HI.out.step F1 q1).get hlt
      have HAI := Lib.hid hai
      subst hai
      have hfx := (RI.fine_iff x).1 (HF.out x (List.mem_of_getElem? hix.out))
      have hbx := HBY.out x (List.mem_of_getElem? hix.out)
      obtain ⟨hxd, hxa, hx32⟩ := hfx
      have hTK : l.take (k + 1) = l.take k ++ [x] := take_succ_get hix.out
      have hNX : B.aF N lvs b (l.take (k + 1)) = B.aS N lvs (B.aF N lvs b (l.take k)) x := by rw [hTK, B.aF_snoc]
      have hNO : B.onA N lvs (l.take (k + 1)) = B.onA N lvs (l.take k) ++ (if B.tak N lvs x then [x.d.toNat] else []) := by rw [hTK, B.onA_snoc]
      obtain ⟨xd, xa, xb⟩ := x
      dsimp only at hxd hxa hx32 hbx hux
      obtain ⟨dn, hdn⟩ := Int.eq_ofNat_of_zero_le hxd.1
      subst hdn
      obtain ⟨e0, e1, e2, ey, i1, i2⟩ := hit
      dsimp only at e0 e1 e2 ey i1 i2
      obtain ⟨au, cu, rfl, _, _⟩ := ey.shapeN hx32
      obtain ⟨X9, hX9⟩ : ∃ X9, X9 = wr.alloc (.cells #[.int .i64 (dn : Int), .int .i64 xa, .slice au 32 cu] 56) := ⟨_, rfl⟩
      have B9 : Below wr.heap.size wr X9 := by rw [hX9]; exact belA1 (belR _)
      have BX9 : Box X9 wr.heap.size [.int .i64 (dn : Int), .int .i64 xa, .slice au 32 cu] := by rw [hX9]; exact Box.new wr _ 56
      have HCB : Hid (∀ Y, Below X9.heap.size X9 Y → Y.cell? ⟨wr.heap.size, 0, none⟩ = some (.int .i64 (dn : Int)) ∧ Y.cell? ⟨wr.heap.size, 1, none⟩ = some (.int .i64 xa) ∧ Y.cell? ⟨wr.heap.size, 2, none⟩ = some (.slice au 32 cu)) := by
        show ∀ Y, _
        intro Y hY
        have hb := BX9.fr (Fr.of_below (S := fun _ => False) hY) id
        have c0 := hb.range 0 _ rfl
        have c1 := hb.range 1 _ rfl
        have c2 := hb.range 2 _ rfl
        simp only [Nat.zero_add] at c0 c1 c2
        exact ⟨c0, c1, c2⟩
      have I9 := Lib.hid (I1.up B9)
      have hds := (SPEC.out k).2.1
      have HLEN : Hid (∀ Y, Below X9.heap.size X9 Y → Calls Try.prog 55 #[.pointer (some ⟨g, 0, none⟩)] Y fun e w' => e = .returned (.int .i64 (N : Int)) ∧ Y = w') := by
        show ∀ Y, _
        intro Y hY
        have := blen_any Y base g lv hs1 _ (I9.out.up hY)
        rwa [hds] at this
      have HIS : Hid (∀ Y, Below X9.heap.size X9 Y → Calls Try.prog 74 #[vv, .int .i64 (dn : Int)] Y fun e w' => e = .returned (.bool (B.live1 lvs dn)) ∧ Y = w') := by
        show ∀ Y, _
        intro Y hY
        exact lgis_any vv lvs dn Y (((HV.out.step F1 q1).bools.up B9).up hY) (by omega)
      have HX9 := Lib.hid hX9
      have HEY := Lib.hid (ey.up B9)
      have HUX := Lib.hid hux
      have HBX := Lib.hid (And.intro hx32 hbx)
      have S9 := Lib.hid (And.intro (F1.trans (Fr.of_below B9)) (And.intro q1 (And.intro (O1.up B9) d1)))
      have A9 : Hid (AX w base g lv hs (B.aF N lvs b (l.take k)) _ (B.onA N lvs (l.take k)) X9) := Lib.hid (HS.out.up B9)
      have HOL := Lib.hid (show (B.onA N lvs (l.take k)).length ≤ 3 by have := B.onA_len N lvs (l.take k); rw [List.length_take] at this; omega)
      have HTD : B.tak N lvs ⟨(dn : Int), xa, xb⟩ = (decide (dn < N) && B.live1 lvs dn) := by
        unfold B.tak
        show (decide ((dn : Int) < (N : Int)) && B.live1 lvs (dn : Int).toNat) = _
        rw [Int.toNat_natCast]
        congr 1
        exact decide_eq_decide.2 (by omega)
      obtain ⟨ao, co, rfl, _, _⟩ := O1.shape
      have HNEW : Hid (¬ ofB g lv hs1 wr.heap.size) := Lib.hid (fun e => by have := I1.lts _ e; omega)
      have HNX := Lib.hid hNX
      have HNO := Lib.hid hNO
      have HHT := Lib.hid HTD
      have hszw : w.heap.size ≤ wr.heap.size := F1.size
      have HD := Lib.hid hxd
      have HA := Lib.hid hxa
      clear hxa hxd HTD hNX hNO hTK B9 BX9 hX9 ey hux hbx hx32 hds I1 F1 q1 O1 d1 HS hkM hlt hix i1 i2
      go_upto_region 8 with (fail)
      rw [← HX9.out]
      by_cases hdl : dn < N
      · have hg : decide ((dn : Int) ≥ (N : Int)) = false := decide_eq_false (by omega)
        have hg' : decide ((N : Int) ≤ (dn : Int)) = false := decide_eq_false (by omega)
        have hg2 : ((N : Int) ≤ (dn : Int)) = False := eq_false (by omega)
        have HDL := Lib.hid hdl
        clear hdl
        obtain ⟨lk, hlk⟩ : ∃ lk, lk = B.live1 lvs dn := ⟨_, rfl⟩
        rw [← hlk] at HIS HHT
        clear hlk
        cases lk with
        | false =>
          have ht : B.tak N lvs ⟨(dn : Int), xa, xb⟩ = false := by rw [HHT.out]; exact Bool.and_false _
          have HNO2 : Hid (AX w base g lv hs (B.aF N lvs b (l.take (k + 1))) (.slice ao (B.onA N lvs (l.take k)).length co) (B.onA N lvs (l.take (k + 1))) X9.drew) := by
            rw [HNX.out, HNO.out, ht, if_neg (by decide), List.append_nil]
            unfold B.aS
            rw [ht, if_neg (by decide)]
            exact Lib.hid (A9.out.up (belDr (belR _)))
          clear ht
          refine wp_region_held_drew (S := fun Y => Y.cell? ⟨wr.heap.size, 0, none⟩ = some (.int .i64 (dn : Int))) (by kernel_rfl) (show World.cell? _ _ = _ from (HCB.out _ (by iterate 8 try (first | assumption | exact belR _ | apply belDr | apply belAlloc))).1) (fun hHeld => ?_)
          refine wpAnyH_take (i := 0) (oi := _) (v := ?_) rfl (by kernel_rfl) (by kernel_rfl) (by kernel_rfl) (fun _ _ _ h => h) (Or.inl ⟨by rfl, ?_⟩) (by assumption) ?_
          rotate_left
          · intro w hSw
            (try dsimp only at hSw)
            go_simp
            try with_reducible rfl
          try simp only [Act.put, List.getElem_toArray, List.getElem_cons_zero, List.getElem_cons_succ, List.setIfInBounds_toArray, List.set_cons_zero, List.set_cons_succ]
          refine wpAnyH_take (i := 2) (oi := _) (v := ?_) rfl (by kernel_rfl) (by kernel_rfl) (by kernel_rfl) (fun _ _ _ h => h) (Or.inl ⟨by rfl, ?_⟩) (by assumption) ?_
          rotate_left
          · intro w hSw
            (try dsimp only at hSw)
            go_simp
            try with_reducible rfl
          try simp only [Act.put, List.getElem_toArray, List.getElem_cons_zero, List.getElem_cons_succ, List.setIfInBounds_toArray, List.set_cons_zero, List.set_cons_succ]
          refine wpAnyH_take (i := 1) (oi := _) (v := ?_) rfl (by kernel_rfl) (by kernel_rfl) (by kernel_rfl) (fun _ _ _ h => h) (Or.inl ⟨by rfl, ?_⟩) (by assumption) ?_
          rotate_left
          · intro w hSw
            (try dsimp only at hSw)
            go_simp
            try with_reducible rfl
          try simp only [Act.put, List.getElem_toArray, List.getElem_cons_zero, List.getElem_cons_succ, List.setIfInBounds_toArray, List.set_cons_zero, List.set_cons_succ]
          refine wpAnyH_ready (rs := [3]) (by kernel_rfl) (by simp) ?_
          refine AllReadyH.cons (o := _) rfl (fun K hK => ?_) AllReadyH.nil
          go_simp
          refine Calls.mono (HLEN.out _ (by iterate 8 try (first | assumption | exact belR _ | apply belDr | apply belAlloc))) ?_
          rintro r wa ⟨rfl, rfl⟩
          try go_simp
          refine hK.out _ _ (show World.cell? _ _ = _ from (HCB.out _ (by iterate 8 try (first | assumption | exact belR _ | apply belDr | apply belAlloc))).1) (fun hHeld => ?_)
          clear hK K
          try simp only [Act.put, List.getElem_toArray, List.getElem_cons_zero, List.getElem_cons_succ, List.setIfInBounds_toArray, List.set_cons_zero, List.set_cons_succ]
          refine wpAnyH_take (i := 4) (oi := _) (v := ?_) rfl (by kernel_rfl) (by kernel_rfl) (by kernel_rfl) (fun _ _ _ h => h) (Or.inl ⟨by rfl, ?_⟩) (by assumption) ?_
          rotate_left
          · intro w hSw
            (try dsimp only at hSw)
            go_simp
            try with_reducible rfl
          try simp only [Act.put, List.getElem_toArray, List.getElem_cons_zero, List.getElem_cons_succ, List.setIfInBounds_toArray, List.set_cons_zero, List.set_cons_succ]
          refine wpAnyH_take (i := 5) (oi := _) (v := ?_) rfl (by kernel_rfl) (by kernel_rfl) (by kernel_rfl) (fun _ _ _ h => h) (Or.inl ⟨by rfl, ?_⟩) (by assumption) ?_
          rotate_left
          · intro w hSw
            (try dsimp only at hSw)
            go_simp
            try with_reducible rfl
          try simp only [Act.put, List.getElem_toArray, List.getElem_cons_zero, List.getElem_cons_succ, List.setIfInBounds_toArray, List.set_cons_zero, List.set_cons_succ]
          refine wpAnyH_take (i := 6) (oi := _) (v := ?_) rfl (by kernel_rfl) (by kernel_rfl) (by kernel_rfl) (fun _ _ _ h => h) (Or.inl ⟨by rfl, ?_⟩) (by assumption) ?_
          rotate_left
          · intro w hSw
            (try dsimp only at hSw)
            go_simp
            try with_reducible rfl
          try simp only [Act.put, List.getElem_toArray, List.getElem_cons_zero, List.getElem_cons_succ, List.setIfInBounds_toArray, List.set_cons_zero, List.set_cons_succ]
          refine wpAnyH_take (i := 7) (oi := _) (v := ?_) rfl (by kernel_rfl) (by kernel_rfl) (by kernel_rfl) (fun _ _ _ h => h) (Or.inl ⟨by rfl, ?_⟩) (by assumption) ?_
          rotate_left
          · intro w hSw
            (try dsimp only at hSw)
            go_simp
            try with_reducible rfl
          try simp only [Act.put, List.getElem_toArray, List.getElem_cons_zero, List.getElem_cons_succ, List.setIfInBounds_toArray, List.set_cons_zero, List.set_cons_succ]
          refine wpAnyH_take (i := 8) (oi := _) (v := ?_) rfl (by kernel_rfl) (by kernel_rfl) (by kernel_rfl) (fun _ _ _ h => h) (Or.inl ⟨by rfl, ?_⟩) (by assumption) ?_
          rotate_left
          · intro w hSw
            (try dsimp only at hSw)
            go_simp
            try with_reducible rfl
          try simp only [Act.put, List.getElem_toArray, List.getElem_cons_zero, List.getElem_cons_succ, List.setIfInBounds_toArray, List.set_cons_zero, List.set_cons_succ]
          refine wpAnyH_ready (rs := [9]) (by kernel_rfl) (by simp) ?_
          refine AllReadyH.cons (o := _) rfl (fun K hK => ?_) AllReadyH.nil
          go_simp
          refine Calls.mono (HIS.out _ (by iterate 8 try (first | assumption | exact belR _ | apply belDr | apply belAlloc))) ?_
          rintro r wb ⟨rfl, rfl⟩
          try go_simp
          refine hK.out _ _ (show World.cell? _ _ = _ from (HCB.out _ (by iterate 8 try (first | assumption | exact belR _ | apply belDr | apply belAlloc))).1) (fun hHeld => ?_)
          clear hK K
          try simp only [Act.put, List.getElem_toArray, List.getElem_cons_zero, List.getElem_cons_succ, List.setIfInBounds_toArray, List.set_cons_zero, List.set_cons_succ]
          refine wpAnyH_take (i := 10) (oi := _) (v := ?_) rfl (by kernel_rfl) (by kernel_rfl) (by kernel_rfl) (fun _ _ _ h => h) (Or.inl ⟨by rfl, ?_⟩) (by assumption) ?_
          rotate_left
          · intro w hSw
            (try dsimp only at hSw)
            go_simp
            try with_reducible rfl
          try simp only [Act.put, List.getElem_toArray, List.getElem_cons_zero, List.getElem_cons_succ, List.setIfInBounds_toArray, List.set_cons_zero, List.set_cons_succ]
          refine wpAnyH_take (i := 11) (oi := _) (v := ?_) rfl (by kernel_rfl) (by kernel_rfl) (by kernel_rfl) (fun _ _ _ h => h) (Or.inl ⟨by rfl, ?_⟩) (by assumption) ?_
          rotate_left
          · intro w hSw
            (try dsimp only at hSw)
            go_simp
            try with_reducible rfl
          try simp only [Act.put, List.getElem_toArray, List.getElem_cons_zero, List.getElem_cons_succ, List.setIfInBounds_toArray, List.set_cons_zero, List.set_cons_succ]
          refine wpAnyH_done (by kernel_rfl) ?_ _
          go_wp2
          go_roundw
          case rel => exact ⟨k + 1, HKL.out, by go_num, HNO2⟩
          case measure => have := HKL.out; simp [intOf]; omega
        | true =>
          have ht : B.tak N lvs ⟨(dn : Int), xa, xb⟩ = true := by rw [HHT.out, decide_eq_true HDL.out]; rfl
          have HNO2 : Hid (B.onA N lvs (l.take (k + 1)) = B.onA N lvs (l.take k) ++ [dn]) := by
            show _ = _
            rw [HNO.out, ht, if_pos rfl]; rfl
          have HNX2 : Hid (B.aF N lvs b (l.take (k + 1)) = B.write (B.aF N lvs b (l.take k)) (dn : Int) xa xb) := by
            show _ = _
            rw [HNX.out]
            unfold B.aS
            rw [ht, if_pos rfl]
          clear ht
          refine wp_region_held_drew (S := fun Y => Y.cell? ⟨wr.heap.size, 0, none⟩ = some (.int .i64 (dn : Int))) (by kernel_rfl) (show World.cell? _ _ = _ from (HCB.out _ (by iterate 8 try (first | assumption | exact belR _ | apply belDr | apply belAlloc))).1) (fun hHeld => ?_)
          refine wpAnyH_take (i := 0) (oi := _) (v := ?_) rfl (by kernel_rfl) (by kernel_rfl) (by kernel_rfl) (fun _ _ _ h => h) (Or.inl ⟨by rfl, ?_⟩) (by assumption) ?_
          rotate_left
          · intro w hSw
            (try dsimp only at hSw)
            go_simp
            try with_reducible rfl
          try simp only [Act.put, List.getElem_toArray, List.getElem_cons_zero, List.getElem_cons_succ, List.setIfInBounds_toArray, List.set_cons_zero, List.set_cons_succ]
          refine wpAnyH_take (i := 2) (oi := _) (v := ?_) rfl (by kernel_rfl) (by kernel_rfl) (by kernel_rfl) (fun _ _ _ h => h) (Or.inl ⟨by rfl, ?_⟩) (by assumption) ?_
          rotate_left
          · intro w hSw
            (try dsimp only at hSw)
            go_simp
            try with_reducible rfl
          try simp only [Act.put, List.getElem_toArray, List.getElem_cons_zero, List.getElem_cons_succ, List.setIfInBounds_toArray, List.set_cons_zero, List.set_cons_succ]
          refine wpAnyH_take (i := 1) (oi := _) (v := ?_) rfl (by kernel_rfl) (by kernel_rfl) (by kernel_rfl) (fun _ _ _ h => h) (Or.inl ⟨by rfl, ?_⟩) (by assumption) ?_
          rotate_left
          · intro w hSw
            (try dsimp only at hSw)
            go_simp
            try with_reducible rfl
          try simp only [Act.put, List.getElem_toArray, List.getElem_cons_zero, List.getElem_cons_succ, List.setIfInBounds_toArray, List.set_cons_zero, List.set_cons_succ]
          refine wpAnyH_ready (rs := [3]) (by kernel_rfl) (by simp) ?_
          refine AllReadyH.cons (o := _) rfl (fun K hK => ?_) AllReadyH.nil
          go_simp
          refine Calls.mono (HLEN.out _ (by iterate 8 try (first | assumption | exact belR _ | apply belDr | apply belAlloc))) ?_
          rintro r wa ⟨rfl, rfl⟩
          try go_simp
          refine hK.out _ _ (show World.cell? _ _ = _ from (HCB.out _ (by iterate 8 try (first | assumption | exact belR _ | apply belDr | apply belAlloc))).1) (fun hHeld => ?_)
          clear hK K
          try simp only [Act.put, List.getElem_toArray, List.getElem_cons_zero, List.getElem_cons_succ, List.setIfInBounds_toArray, List.set_cons_zero, List.set_cons_succ]
          refine wpAnyH_take (i := 4) (oi := _) (v := ?_) rfl (by kernel_rfl) (by kernel_rfl) (by kernel_rfl) (fun _ _ _ h => h) (Or.inl ⟨by rfl, ?_⟩) (by assumption) ?_
          rotate_left
          · intro w hSw
            (try dsimp only at hSw)
            go_simp
            try with_reducible rfl
          try simp only [Act.put, List.getElem_toArray, List.getElem_cons_zero, List.getElem_cons_succ, List.setIfInBounds_toArray, List.set_cons_zero, List.set_cons_succ]
          refine wpAnyH_take (i := 5) (oi := _) (v := ?_) rfl (by kernel_rfl) (by kernel_rfl) (by kernel_rfl) (fun _ _ _ h => h) (Or.inl ⟨by rfl, ?_⟩) (by assumption) ?_
          rotate_left
          · intro w hSw
            (try dsimp only at hSw)
            go_simp
            try with_reducible rfl
          try simp only [Act.put, List.getElem_toArray, List.getElem_cons_zero, List.getElem_cons_succ, List.setIfInBounds_toArray, List.set_cons_zero, List.set_cons_succ]
          refine wpAnyH_take (i := 6) (oi := _) (v := ?_) rfl (by kernel_rfl) (by kernel_rfl) (by kernel_rfl) (fun _ _ _ h => h) (Or.inl ⟨by rfl, ?_⟩) (by assumption) ?_
          rotate_left
          · intro w hSw
            (try dsimp only at hSw)
            go_simp
            try with_reducible rfl
          try simp only [Act.put, List.getElem_toArray, List.getElem_cons_zero, List.getElem_cons_succ, List.setIfInBounds_toArray, List.set_cons_zero, List.set_cons_succ]
          refine wpAnyH_take (i := 7) (oi := _) (v := ?_) rfl (by kernel_rfl) (by kernel_rfl) (by kernel_rfl) (fun _ _ _ h => h) (Or.inl ⟨by rfl, ?_⟩) (by assumption) ?_
          rotate_left
          · intro w hSw
            (try dsimp only at hSw)
            go_simp
            try with_reducible rfl
          try simp only [Act.put, List.getElem_toArray, List.getElem_cons_zero, List.getElem_cons_succ, List.setIfInBounds_toArray, List.set_cons_zero, List.set_cons_succ]
          refine wpAnyH_take (i := 8) (oi := _) (v := ?_) rfl (by kernel_rfl) (by kernel_rfl) (by kernel_rfl) (fun _ _ _ h => h) (Or.inl ⟨by rfl, ?_⟩) (by assumption) ?_
          rotate_left
          · intro w hSw
            (try dsimp only at hSw)
            go_simp
            try with_reducible rfl
          try simp only [Act.put, List.getElem_toArray, List.getElem_cons_zero, List.getElem_cons_succ, List.setIfInBounds_toArray, List.set_cons_zero, List.set_cons_succ]
          refine wpAnyH_ready (rs := [9]) (by kernel_rfl) (by simp) ?_
          refine AllReadyH.cons (o := _) rfl (fun K hK => ?_) AllReadyH.nil
          go_simp
          refine Calls.mono (HIS.out _ (by iterate 8 try (first | assumption | exact belR _ | apply belDr | apply belAlloc))) ?_
          rintro r wb ⟨rfl, rfl⟩
          try go_simp
          refine hK.out _ _ (show World.cell? _ _ = _ from (HCB.out _ (by iterate 8 try (first | assumption | exact belR _ | apply belDr | apply belAlloc))).1) (fun hHeld => ?_)
          clear hK K
          try simp only [Act.put, List.getElem_toArray, List.getElem_cons_zero, List.getElem_cons_succ, List.setIfInBounds_toArray, List.set_cons_zero, List.set_cons_succ]
          refine wpAnyH_take (i := 10) (oi := _) (v := ?_) rfl (by kernel_rfl) (by kernel_rfl) (by kernel_rfl) (fun _ _ _ h => h) (Or.inl ⟨by rfl, ?_⟩) (by assumption) ?_
          rotate_left
          · intro w hSw
            (try dsimp only at hSw)
            go_simp
            try with_reducible rfl
          try simp only [Act.put, List.getElem_toArray, List.getElem_cons_zero, List.getElem_cons_succ, List.setIfInBounds_toArray, List.set_cons_zero, List.set_cons_succ]
          refine wpAnyH_take (i := 11) (oi := _) (v := ?_) rfl (by kernel_rfl) (by kernel_rfl) (by kernel_rfl) (fun _ _ _ h => h) (Or.inl ⟨by rfl, ?_⟩) (by assumption) ?_
          rotate_left
          · intro w hSw
            (try dsimp only at hSw)
            go_simp
            try with_reducible rfl
          try simp only [Act.put, List.getElem_toArray, List.getElem_cons_zero, List.getElem_cons_succ, List.setIfInBounds_toArray, List.set_cons_zero, List.set_cons_succ]
          refine wpAnyH_done (by kernel_rfl) ?_ _
          obtain ⟨F1, q1, O1, d1⟩ := S9.out
          obtain ⟨p1, p2, p3, p4, _, p6, _⟩ := SPEC.out k
          have I9d := I9.out.up (belDr (belR X9))
          have hwE := (p1.write1 (m := dn) (a := xa.toNat) (x := xb) (by rw [p2]; exact HDL.out) (by have := HA.out; omega) HBX.out.1).1
          rw [show ((xa.toNat : Nat) : Int) = xa from Int.toNat_of_nonneg (by have := HA.out; omega)] at hwE
          have HW := bwrite_any _ base g lv hs1 _ (dn : Int) xa (.slice au 32 cu) xb I9d (HEY.out.drew) (fun y hy => HUX.out (by intro e; have := HBX.out.1; rw [e] at this; cases this) y hy) (by have := HB0.out; have := F1.size; simp only [World.size_drew]; omega)
            (fun dk hdk => by
              obtain ⟨i, hi, rfl⟩ := List.getElem_of_mem hdk
              have h1 := p6 i
              rw [B.at1_eq hi, List.length_take] at h1
              have hi2 : i < b.ds.length := by rw [p2, HN.out] at hi; exact hi
              have h2 := HPW.out.1 _ (List.getElem_mem hi2)
              rw [B.at1_eq hi2] at h1
              omega) (by have := HPW.out.2; rw [List.length_take] at p4; omega) (by rw [p1.left]; decide)
          rw [hwE] at HW
          obtain ⟨er, her⟩ : ∃ er : Int, er = if B.failB (B.aF N lvs b (l.take k)) dn then 5 else 0 := ⟨_, rfl⟩
          rw [← her] at HW
          have HW := Lib.hid HW
          have HBD := lgbad_any er
          have hnb : decide (er ≠ 0 ∧ er ≠ 5) = false := by rw [her]; split <;> decide
          rw [hnb] at HBD
          have HBD := Lib.hid HBD
          have F1d := F1.trans (Fr.drew (S := ofB g lv hs) X9)
          have O1d := O1.up (belDr (belR X9))
          have hlt9 := Lib.hid I9d.lts
          have SD := Lib.hid (And.intro F1d (And.intro q1 (And.intro O1d d1)))
          have CB := HCB.out X9.drew (belDr (belR _))
          obtain ⟨f0, f1, f2⟩ := CB
          have hnew : Hid (¬ ofB g lv hs1 wr.heap.size) := Lib.hid HNEW.out
          clear F1 q1 O1 d1 p1 p2 p3 p4 p6 I9d hwE her hnb F1d O1d
          go_wp2_with fail
          refine Calls.mono HW.out ?_
          rintro r w5 ⟨rfl, hs5, I5, F5, q5⟩
          have A5 := Lib.hid (AX.write SD.out.1 SD.out.2.1 SD.out.2.2.1 SD.out.2.2.2 I5 F5 q5)
          rw [← HNX2.out] at A5
          have f0' := cell_fr f0 F5 hnew.out
          have hs5 := F5.size
          clear f0 f1 f2 I5 F5 q5 HW
          go_wp2_with fail
          refine Calls.mono (HBD.out _) ?_
          rintro r w6 ⟨rfl, rfl⟩
          have A6 : Hid (∀ o, AX w base g lv hs (B.aF N lvs b (l.take (k + 1))) (.slice ao (B.onA N lvs (l.take k)).length co) (B.onA N lvs (l.take k)) (w5.alloc o)) := Lib.hid (fun o => A5.out.up (belA1 (belR _)))
          have AO : Hid (∀ o, OwnZ (w5.alloc o) w.heap.size (.slice ao (B.onA N lvs (l.take k)).length co) (B.onA N lvs (l.take k))) := Lib.hid (fun o => by obtain ⟨_, _, _, _, O, _⟩ := A6.out o; exact O)
          have hz5 : w.heap.size ≤ w5.heap.size := by
            obtain ⟨_, _, F, _⟩ := A5.out
            exact F.size
          go_wp2_with (at_builtin; go_loud (refine wpList_append_int_pl rfl _ _ 22 rfl j0 Try.underlying22 hi0 hz0 hz1 hz2 w.heap.size _ (B.onA N lvs (l.take k)) rfl (AO.out _) w5.heap.size 1 1 dn rfl rfl (by simp) (by have := HOL.out; omega) (by simp; omega) ?_); intro v7 w7 O7 g7 p7)
          have A7 := Lib.hid (AX.append (A6.out _) (T' := B.onA N lvs (l.take (k + 1))) (by rw [HNO2.out]; exact O7) g7 p7)
          go_roundw
          case rel => exact ⟨k + 1, HKL.out, by go_num, A7⟩
          case measure => have := HKL.out; simp [intOf]; omega
      · have hg : decide ((dn : Int) ≥ (N : Int)) = true := decide_eq_true (by omega)
        have hg' : decide ((N : Int) ≤ (dn : Int)) = true := decide_eq_true (by omega)
        have hg2 : ((N : Int) ≤ (dn : Int)) = True := eq_true (by omega)
        have ht : B.tak N lvs ⟨(dn : Int), xa, xb⟩ = false := by rw [HHT.out, decide_eq_false hdl]; rfl
        have HNO2 : Hid (AX w base g lv hs (B.aF N lvs b (l.take (k + 1))) (.slice ao (B.onA N lvs (l.take k)).length co) (B.onA N lvs (l.take (k + 1))) X9.drew) := by
          rw [HNX.out, HNO.out, ht, if_neg (by decide), List.append_nil]
          unfold B.aS
          rw [ht, if_neg (by decide)]
          exact Lib.hid (A9.out.up (belDr (belR _)))
        clear ht hdl
        refine wp_region_held_drew (S := fun Y => Y.cell? ⟨wr.heap.size, 0, none⟩ = some (.int .i64 (dn : Int))) (by kernel_rfl) (show World.cell? _ _ = _ from (HCB.out _ (by iterate 8 try (first | assumption | exact belR _ | apply belDr | apply belAlloc))).1) (fun hHeld => ?_)
        refine wpAnyH_take (i := 0) (oi := _) (v := ?_) rfl (by kernel_rfl) (by kernel_rfl) (by kernel_rfl) (fun _ _ _ h => h) (Or.inl ⟨by rfl, ?_⟩) (by assumption) ?_
        rotate_left
        · intro w hSw
          (try dsimp only at hSw)
          go_simp
          try with_reducible rfl
        try simp only [Act.put, List.getElem_toArray, List.getElem_cons_zero, List.getElem_cons_succ, List.setIfInBounds_toArray, List.set_cons_zero, List.set_cons_succ]
        refine wpAnyH_take (i := 2) (oi := _) (v := ?_) rfl (by kernel_rfl) (by kernel_rfl) (by kernel_rfl) (fun _ _ _ h => h) (Or.inl ⟨by rfl, ?_⟩) (by assumption) ?_
        rotate_left
        · intro w hSw
          (try dsimp only at hSw)
          go_simp
          try with_reducible rfl
        try simp only [Act.put, List.getElem_toArray, List.getElem_cons_zero, List.getElem_cons_succ, List.setIfInBounds_toArray, List.set_cons_zero, List.set_cons_succ]
        refine wpAnyH_take (i := 1) (oi := _) (v := ?_) rfl (by kernel_rfl) (by kernel_rfl) (by kernel_rfl) (fun _ _ _ h => h) (Or.inl ⟨by rfl, ?_⟩) (by assumption) ?_
        rotate_left
        · intro w hSw
          (try dsimp only at hSw)
          go_simp
          try with_reducible rfl
        try simp only [Act.put, List.getElem_toArray, List.getElem_cons_zero, List.getElem_cons_succ, List.setIfInBounds_toArray, List.set_cons_zero, List.set_cons_succ]
        refine wpAnyH_ready (rs := [3]) (by kernel_rfl) (by simp) ?_
        refine AllReadyH.cons (o := _) rfl (fun K hK => ?_) AllReadyH.nil
        go_simp
        refine Calls.mono (HLEN.out _ (by iterate 8 try (first | assumption | exact belR _ | apply belDr | apply belAlloc))) ?_
        rintro r wa ⟨rfl, rfl⟩
        try go_simp
        refine hK.out _ _ (show World.cell? _ _ = _ from (HCB.out _ (by iterate 8 try (first | assumption | exact belR _ | apply belDr | apply belAlloc))).1) (fun hHeld => ?_)
        clear hK K
        try simp only [Act.put, List.getElem_toArray, List.getElem_cons_zero, List.getElem_cons_succ, List.setIfInBounds_toArray, List.set_cons_zero, List.set_cons_succ]
        refine wpAnyH_take (i := 4) (oi := _) (v := ?_) rfl (by kernel_rfl) (by kernel_rfl) (by kernel_rfl) (fun _ _ _ h => h) (Or.inl ⟨by rfl, ?_⟩) (by assumption) ?_
        rotate_left
        · intro w hSw
          (try dsimp only at hSw)
          go_simp
          try with_reducible rfl
        try simp only [Act.put, List.getElem_toArray, List.getElem_cons_zero, List.getElem_cons_succ, List.setIfInBounds_toArray, List.set_cons_zero, List.set_cons_succ]
        refine wpAnyH_take (i := 5) (oi := _) (v := ?_) rfl (by kernel_rfl) (by kernel_rfl) (by kernel_rfl) (fun _ _ _ h => h) (Or.inl ⟨by rfl, ?_⟩) (by assumption) ?_
        rotate_left
        · intro w hSw
          (try dsimp only at hSw)
          go_simp
          try with_reducible rfl
        try simp only [Act.put, List.getElem_toArray, List.getElem_cons_zero, List.getElem_cons_succ, List.setIfInBounds_toArray, List.set_cons_zero, List.set_cons_succ]
        refine wpAnyH_take (i := 6) (oi := _) (v := undef) rfl (by kernel_rfl) (by kernel_rfl) (by kernel_rfl) (fun _ _ _ h => h) (Or.inr ⟨by rfl, rfl⟩) (by assumption) ?_
        try simp only [Act.put, List.getElem_toArray, List.getElem_cons_zero, List.getElem_cons_succ, List.setIfInBounds_toArray, List.set_cons_zero, List.set_cons_succ]
        refine wpAnyH_take (i := 7) (oi := _) (v := undef) rfl (by kernel_rfl) (by kernel_rfl) (by kernel_rfl) (fun _ _ _ h => h) (Or.inr ⟨by rfl, rfl⟩) (by assumption) ?_
        try simp only [Act.put, List.getElem_toArray, List.getElem_cons_zero, List.getElem_cons_succ, List.setIfInBounds_toArray, List.set_cons_zero, List.set_cons_succ]
        refine wpAnyH_take (i := 8) (oi := _) (v := undef) rfl (by kernel_rfl) (by kernel_rfl) (by kernel_rfl) (fun _ _ _ h => h) (Or.inr ⟨by rfl, rfl⟩) (by assumption) ?_
        try simp only [Act.put, List.getElem_toArray, List.getElem_cons_zero, List.getElem_cons_succ, List.setIfInBounds_toArray, List.set_cons_zero, List.set_cons_succ]
        refine wpAnyH_take (i := 9) (oi := _) (v := undef) rfl (by kernel_rfl) (by kernel_rfl) (by kernel_rfl) (fun _ _ _ h => h) (Or.inr ⟨by rfl, rfl⟩) (by assumption) ?_
        try simp only [Act.put, List.getElem_toArray, List.getElem_cons_zero, List.getElem_cons_succ, List.setIfInBounds_toArray, List.set_cons_zero, List.set_cons_succ]
        refine wpAnyH_take (i := 10) (oi := _) (v := undef) rfl (by kernel_rfl) (by kernel_rfl) (by kernel_rfl) (fun _ _ _ h => h) (Or.inr ⟨by rfl, rfl⟩) (by assumption) ?_
        try simp only [Act.put, List.getElem_toArray, List.getElem_cons_zero, List.getElem_cons_succ, List.setIfInBounds_toArray, List.set_cons_zero, List.set_cons_succ]
        refine wpAnyH_take (i := 11) (oi := _) (v := ?_) rfl (by kernel_rfl) (by kernel_rfl) (by kernel_rfl) (fun _ _ _ h => h) (Or.inl ⟨by rfl, ?_⟩) (by assumption) ?_
        rotate_left
        · intro w hSw
          (try dsimp only at hSw)
          go_simp
          try with_reducible rfl
        try simp only [Act.put, List.getElem_toArray, List.getElem_cons_zero, List.getElem_cons_succ, List.setIfInBounds_toArray, List.set_cons_zero, List.set_cons_succ]
        refine wpAnyH_done (by kernel_rfl) ?_ _
        go_wp2
        go_roundw
        case rel => exact ⟨k + 1, HKL.out, by go_num, HNO2⟩
        case measure => have := HKL.out; simp [intOf]; omega
    · have hke : k = M := by omega
      subst hke
      have HS := HS.out
      rw [HM.out, List.take_length] at HS
      obtain ⟨hs1, I1, F1, q1, O1, d1⟩ := HS
      have hsp := SPEC.out l.length
      rw [List.take_length] at hsp
      have hT : ∀ d ∈ B.onA N lvs l, d < (B.aF N lvs b l).ds.length := fun d hd => by rw [hsp.2.1]; exact B.onA_lt (fun x hx => ((RI.fine_iff x).1 (HF.out x hx)).1.1) d hd
      have HFL := Lib.hid (flush_list wr base g lv hs1 _ _ _ _ I1 hsp.1 O1 d1 hT (by have := B.onA_len N lvs l; have := HM.out; omega))
      have HF1 := Lib.hid (And.intro F1 q1)
      have EQ : Hid (B.applyB b lvs l = (B.onA N lvs l).foldl flS (B.aF N lvs b l)) := by
        show _ = _
        unfold B.applyB; rw [← HN.out]
      obtain ⟨ao, co, rfl, _, _⟩ := O1.shape
      clear I1 F1 q1 O1 d1 hsp hT hlt hkM
      go_wp2_with fail
      refine Calls.mono HFL.out ?_
      rintro r w9 ⟨rfl, hs9, I9, F9, q9⟩
      have HR : Hid (∃ hs', IsBench w9 base g lv hs' (B.applyB b lvs l) ∧ Fr (ofB g lv hs) w w9 ∧ ∀ y, ofB g lv hs' y → ofB g lv hs y ∨ w.heap.size ≤ y) := by
        rw [EQ.out]
        refine ⟨hs9, I9, HF1.out.1.transN F9 HF1.out.2, fun y hy => ?_⟩
        rcases q9 y hy with h | h
        · exact HF1.out.2 y h
        · exact .inr (by have := HF1.out.1.size; omega)
      clear I9 F9 q9
      go_wp2
      go_ret
      exact ⟨rfl, HR.out⟩
end Go.Proofs.Ytenjpldinnbcbaa
