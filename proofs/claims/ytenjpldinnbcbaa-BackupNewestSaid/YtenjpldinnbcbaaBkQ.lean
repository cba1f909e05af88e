/- The walk of backup.Put. -/
import Derived.Test.YtenjpldinnbcbaaBkA
import Derived.Test.YtenjpldinnbcbaaBenchY
import Derived.Test.YtenjpldinnbcbaaInfo
namespace Go.Proofs.Ytenjpldinnbcbaa
open Go.RowKit
set_option linter.unusedVariables false
set_option linter.unusedSimpArgs false
set_option maxRecDepth 100000
set_option maxHeartbeats 2000000

/-- in the midst of a Put: the bench, and what is read -/
def PJ (w : World) (base g : Nat) (lv : Value) (hs : List (Nat × Value)) (av : Value) (all : List (List Nat)) (vv : Value) (lvs : List Bool) (X : World) (c : B.Bn) : Prop :=
  ∃ hs', IsBench X base g lv hs' c ∧ Fr (ofB g lv hs) w X ∧ (∀ y, ofB g lv hs' y → ofB g lv hs y ∨ w.heap.size ≤ y) ∧ BA (ofB g lv hs') X vv lvs ∧ PA (ofB g lv hs') X av all
theorem PJ.next {w : World} {base g : Nat} {lv : Value} {hs : List (Nat × Value)} {av : Value} {all : List (List Nat)} {vv : Value} {lvs : List Bool} {X Y : World} {c c' : B.Bn} {hs1 hs2 : List (Nat × Value)}
    (hF : Fr (ofB g lv hs) w X) (hq : ∀ y, ofB g lv hs1 y → ofB g lv hs y ∨ w.heap.size ≤ y) (hBA : BA (ofB g lv hs1) X vv lvs) (hPA : PA (ofB g lv hs1) X av all)
    (hB : IsBench Y base g lv hs2 c') (hF2 : Fr (ofB g lv hs1) X Y) (hq2 : ∀ y, ofB g lv hs2 y → ofB g lv hs1 y ∨ X.heap.size ≤ y) : PJ w base g lv hs av all vv lvs Y c' :=
  ⟨hs2, hB, hF.transN hF2 hq, fun y hy => by
    rcases hq2 y hy with h1 | h1
    · exact hq y h1
    · exact .inr (Nat.le_trans hF.size h1), hBA.step hF2 hq2, hPA.step hF2 hq2⟩
/-- one row just built, and more rows behind it -/
theorem wpList_append_rowsA {P : Program} {w : World} {ops : Array Oper} {rest : List Oper} {o : Oper} {a : Act} {Q : Exit → Act → World → Prop} (hgd : o.guard = none) (s x : Operand) (t : TypeId)
    (ho : o.op = .call { callee := .builtin .append, args := #[s, x], argTypes := #[t, t] })
    (i : TypeInfo) (ht : P.underlying t = some (.slice 48)) (hi : P.info? 48 = some i) (hz : i.zero = some (.slice none 0 0)) (hsize : i.size = 1) (hby : i.bytes = 24)
    (base : Nat) (w1 : World) (g : Nat) (hv : Value) (l : List Nat) (hw : w = w1.alloc (.cells #[hv] 48)) (hg : g = w1.heap.size) (hs : a.eval s = .slice (some ⟨g, 0, none⟩) 1 1) (hO : Own w1 base hv l)
    (S : Nat → Prop) (hS : ∀ y, S y → y < base) (v : Value) (ls : List (List Nat)) (hx : a.eval x = v) (hown : PA S w1 v ls)
    (h63 : ls.length ≤ 1048576) (hbase : base ≤ w1.heap.size)
    (h : ∀ v' w', PA S w' v' (l :: ls) → Below w1.heap.size w1 w' → wpList P ops Q rest (a.put o.dst v') w') : wpList P ops Q (o :: rest) a w := by
  subst hg
  have hB : Below w1.heap.size w1 w := by rw [hw]; exact belA1 (belR _)
  obtain ⟨ao, cap, cs, rfl, h1, h2, h0, hA, hl, hv2, hBy⟩ := hown
  have hone : ∀ u ∈ cs, u.oneCell' = true := by
    intro u hu
    obtain ⟨k, hk, e⟩ := List.getElem_of_mem hu
    obtain ⟨c, e2, hc, _⟩ := hBy k (by rw [← hl]; exact hk)
    rw [List.getElem?_eq_getElem hk, e] at e2
    cases e2
    exact hc.one
  have hA2 : At w ao cs := hA.fr (S := fun _ => False) (n := ls.length) (cap := cap) (Fr.of_below hB) (fun _ _ _ => id)
  have hr : w.ownsRow base 48 1 (.slice (some ⟨w1.heap.size, 0, none⟩) 1 1) 1 [hv] := by rw [hw]; exact World.ownsRow_lit w1 #[hv] 1 hbase (by simp [maxLen]) rfl
  refine wpList_append_at hgd s x t ho base 48 i (.slice none 0 0) 1 24 ht hi hz hsize hby rfl (by decide) _ 1 [hv] hs hr ao ls.length cap cs hx h0 h1 (by simpa using hl) hA2 hone (by simp only [maxLen]; omega) (by omega) (Nat.le_trans hbase hB.size) ?_
  intro v' w' hown' hgr _
  have hB' : Below w1.heap.size w1 w' := belG hB hgr (fun g hg => by cases hg; exact Nat.le_refl _)
  refine h v' w' (PA.of_rowB (base := base) (cs := hv :: cs) ?_ ?_ hS ?_) hB'
  · rw [Nat.add_comm] at hown'; exact hown'
  · simp [hl]
  · intro k hk
    cases k with
    | zero =>
      refine ⟨hv, rfl, ((hO.byt).up hB).keptB hgr (.inr fun g hg e => ?_), fun _ y hy hs => ?_⟩
      · cases e; exact Nat.lt_irrefl _ (hO.2.lt _ hg).2
      · have := (hO.2.lt y hy).1; have := hS y hs; omega
    | succ k =>
      obtain ⟨c, e, hc, hcv⟩ := hBy k (by simpa using hk)
      refine ⟨c, e, (hc.up hB).keptB hgr ?_, hcv⟩
      by_cases hne : ls.getD k [] = []
      · exact .inl hne
      · refine .inr fun g hg e => ?_
        cases e
        exact Nat.lt_irrefl _ (hc.blkN hne hg)
attribute [local irreducible] Go.Calls Byt Own Parts PA BA Bools
theorem bkput_no (g : Nat) (vv : Value) (e x : Int) (v : Value) (data : List (List Nat)) (w : World) (h : Parts w v data) (hn : mayB e x data = false) :
    Calls Try.prog 17 #[.pointer (some ⟨g, 0, none⟩), vv, .int .i64 e, .int .i64 x, v] w fun r w' => r = .returned (.int .i64 1) ∧ Below w.heap.size w w' := by
  have H := Lib.hid (bkmay_no e x v data w h hn)
  clear h hn
  go_enter Try.func17, Try.ntmps17
  go_wp2_with fail
  refine Calls.mono H.out ?_
  rintro r w1 ⟨rfl, D⟩
  go_wp2
  go_ret
  exact ⟨rfl, D⟩
theorem bkput_yes (w : World) (base g : Nat) (lv : Value) (hs : List (Nat × Value)) (b : B.Bn) (vv : Value) (lvs : List Bool) (e x : Nat) (v : Value) (data : List (List Nat))
    (h : IsBench w base g lv hs b) (hU : B.Up b) (hb0 : base ≤ w.heap.size) (hL : BA (ofB g lv hs) w vv lvs) (hP : PA (ofB g lv hs) w v data) (he : e < 65536) (hx : x ≤ 16) (hl : data.length ≤ 28) (h32 : ∀ p ∈ data, p.length = 32)
    (hn : b.ds.length ≤ 8) (hp : ∀ d ∈ b.ds, d.p.length ≤ 1000000) (hw : 0 ≤ b.writes ∧ b.writes ≤ 1000000000) :
    Calls Try.prog 17 #[.pointer (some ⟨g, 0, none⟩), vv, .int .i64 (e : Int), .int .i64 (x : Int), v] w fun r w' => r = .returned (.int .i64 0) ∧ ∃ hs', IsBench w' base g lv hs' (B.putB b lvs (headL e x data :: data)) ∧ Fr (ofB g lv hs) w w' ∧ ∀ y, ofB g lv hs' y → ofB g lv hs y ∨ w.heap.size ≤ y := by
  obtain ⟨j0, hj, hy0, hy1, hy2⟩ := info_parts parts_info
  have hHL := headL_len e x data
  obtain ⟨H1, hH1⟩ : ∃ H1, H1 = headL e x data := ⟨_, rfl⟩
  have hdl : (H1 :: data).length = data.length + 1 := rfl
  have h32' : ∀ p ∈ (H1 :: data), p.length = 32 := by
    intro p hp
    rcases List.mem_cons.1 hp with rfl | hp
    · rw [hH1]; exact hHL
    · exact h32 p hp
  have HMAY := Lib.hid (bkmay_yes e x v data w hP.parts he hx hl h32)
  have HHEAD := Lib.hid (fun X (hX : Below w.heap.size w X) => bkhead_any e x v data X (hP.parts.up hX) he hx hl)
  rw [← hH1] at HHEAD ⊢
  obtain ⟨AL, hAL⟩ : ∃ AL, AL = H1 :: data := ⟨_, rfl⟩
  rw [← hAL] at hdl h32' ⊢
  have HAL := Lib.hid hAL
  have HB := Lib.hid h
  have HL := Lib.hid hL
  have HP := Lib.hid hP
  have HLT := Lib.hid h.lts
  obtain ⟨al, cl, rfl, hc1, hc2⟩ := hP.shape
  have HC := Lib.hid (And.intro hc1 hc2)
  have HHL : Hid (H1.length = 32) := by show _ = _; rw [hH1]; exact hHL
  have hHL := HHL.out
  have H32 := Lib.hid h32'
  clear h hL hP h32 h32' hAL hH1 he hx hc1 hc2
  go_enter Try.func17, Try.ntmps17
  go_wp2_with fail
  refine Calls.mono HMAY.out ?_
  rintro r w1 ⟨rfl, b1⟩
  go_wp2_with fail
  refine Calls.mono (HHEAD.out w1 b1) ?_
  rintro r w2 ⟨hv, rfl, O2, b2⟩
  have B2 := belT b1 b2
  obtain ⟨ah, kh, rfl, _, _⟩ := O2.byt.shapeN hHL
  have O2h := Lib.hid O2
  clear O2
  go_wp2_with (at_builtin; go_loud (refine wpList_append_rowsA rfl _ _ 31 rfl j0 Try.underlying31 hj hy0 hy1 hy2 w1.heap.size w2 _ _ H1 rfl rfl rfl O2h.out (ofB g lv hs) (fun y hy => Nat.lt_of_lt_of_le (HLT.out y hy) b1.size) _ data rfl (HP.out.up B2) (by omega) b2.size ?_); intro v3 w3 P3 b3)
  have B3 := belT B2 b3
  rw [← HAL.out] at P3
  have h52 : AL.length ≤ 29 := by omega
  obtain ⟨a3, c3, rfl, _, _⟩ := P3.shape
  obtain ⟨M, hM⟩ : ∃ M, M = AL.length := ⟨_, rfl⟩
  rw [← hM] at P3 h52 hdl ⊢
  have HDL := Lib.hid hdl
  clear hdl
  have HM := Lib.hid hM
  have h8 : Hid (∀ p ∈ AL, ∀ y ∈ p, y < 256) := Lib.hid P3.parts.bytes
  obtain ⟨N, hN⟩ : ∃ N, N = b.ds.length := ⟨_, rfl⟩
  have HN := Lib.hid hN
  have HU := Lib.hid hU
  have HPW := Lib.hid (And.intro hp hw)
  have H0 : Hid (PJ w base g lv hs (.slice a3 M c3) AL vv lvs w3 (B.putW b lvs AL 0)) := ⟨hs, HB.out.up B3, Fr.of_below B3, fun y hy => .inl hy, HL.out.up B3, P3⟩
  have HLEN := Lib.hid (blen_any w3 base g lv hs b (HB.out.up B3))
  rw [← HN.out] at hn HLEN
  clear hM hN hU hp hw P3 b1 b2 b3 B2
  refine Calls.mono HLEN.out ?_
  rintro r w4 ⟨rfl, rfl⟩
  go_wp2
  go_loopw [32] (fun i X => ∃ k : Nat, k ≤ N ∧ i = .int .i64 k ∧ Hid (PJ w base g lv hs (.slice a3 M c3) AL vv lvs X (B.putW b lvs AL k))) (fun i _ => N - (intOf i).toNat)
  case atStart => exact ⟨0, Nat.zero_le _, rfl, H0⟩
  case round =>
    obtain ⟨k, hk, rfl, hJ⟩ := hrel
    by_cases hlt : k < N
    · obtain ⟨hs1, I1, F1, q1, BA1, PA1⟩ := hJ.out
      have hkN : (k : Int) < (N : Int) := by omega
      have hk0 : (0 : Int) ≤ (k : Int) := by omega
      have hk1' : IntKind.i64.wrap ((k : Int) + 1) = ((k + 1 : Nat) : Int) := by rw [IntKind.wrap_i64]; omega
      have HIS := Lib.hid (bkis_any vv lvs k ‹_› BA1.bools (by omega))
      have HLT := Lib.hid hlt
      clear I1 F1 q1 BA1 PA1
      by_cases hlive : B.live1 lvs k = true
      · rw [hlive] at HIS
        go_wp2_with fail
        refine Calls.mono HIS.out ?_
        rintro r w5 ⟨rfl, rfl⟩
        have HJ0 : Hid (PJ w base g lv hs (.slice a3 M c3) AL vv lvs wr (B.wrk (B.putW b lvs AL k) k AL 0)) := hJ
        clear hJ
        go_wp2
        go_loopw [41] (fun i Y => ∃ j : Nat, j ≤ M ∧ i = .int .i64 j ∧ Hid (PJ w base g lv hs (.slice a3 M c3) AL vv lvs Y (B.wrk (B.putW b lvs AL k) k AL j))) (fun i _ => M - (intOf i).toNat)
        case atStart => exact ⟨0, Nat.zero_le _, rfl, HJ0⟩
        case round =>
          obtain ⟨j, hj, rfl, hJ2⟩ := hrel
          by_cases hlt2 : j < M
          · obtain ⟨hs2, I2, F2, q2, BA2, PA2⟩ := hJ2.out
            obtain ⟨bb, ob, cc, p, rfl, hcc, hp, hy, hap⟩ := PA2.get (k := j) (by rw [← HM.out]; exact hlt2)
            have hp32 : p.length = 32 := H32.out p (List.mem_of_getElem? hp.out)
            obtain ⟨ac, kc, rfl, _, _⟩ := hy.shapeN hp32
            obtain ⟨m1, m2, m3, m4, m5⟩ := B.mid_spec HU.out lvs H32.out h8.out (by rw [← HM.out]; omega) (N := 1000000) HPW.out.1 (m := k) (k := j) (by rw [← HN.out]; exact HLT.out) (by rw [← HM.out]; omega)
            have hgp : AL.getD j [] = p := by rw [List.getD, hp.out]; rfl
            have hwE := (m1.write (m := k) (a := 6 + j) (x := p) (by rw [m2, ← HN.out]; exact HLT.out) (by omega) hp32).1
            have hbig : (b.ds.length + 1) * AL.length ≤ 9 * 29 := Nat.mul_le_mul (by rw [← HN.out]; omega) (by rw [← HM.out]; omega)
            have HW := Lib.hid (bwrite_any _ base g lv hs2 _ (k : Int) ((6 + j : Nat) : Int) (.slice ac 32 kc) p I2 hy (hap (by intro e; rw [e] at hp32; cases hp32)) (Nat.le_trans hb0 F2.size)
              (fun d hd => by have := m3 d hd; omega) (by have := HPW.out.2; omega) (by rw [m1.left]; decide))
            rw [hwE] at HW
            have HG2 := Lib.hid hgp
            have HF := Lib.hid (And.intro F2 (And.intro q2 (And.intro BA2 PA2)))
            have hjM : (j : Int) < (M : Int) := by omega
            have hj0 : (0 : Int) ≤ (j : Int) := by omega
            have hj1' : IntKind.i64.wrap ((j : Int) + 1) = ((j + 1 : Nat) : Int) := by rw [IntKind.wrap_i64]; omega
            have hj6 : IntKind.i64.wrap (6 + (j : Int)) = ((6 + j : Nat) : Int) := by rw [IntKind.wrap_i64]; omega
            have HLT2 := Lib.hid hlt2
            clear I2 F2 q2 BA2 PA2 hy hap hp32 m1 m2 m3 m4 m5 hgp hwE hbig hlt2 hJ2
            go_wp2_with fail
            refine Calls.mono HW.out ?_
            rintro r w5 ⟨rfl, hs3, I3, F3, q3⟩
            have HNEXT : Hid (PJ w base g lv hs (.slice (some ⟨bb, ob, none⟩) M c3) AL vv lvs w5 (B.wrk (B.putW b lvs AL k) k AL (j + 1))) := by
              obtain ⟨F2, q2, BA2, PA2⟩ := HF.out
              show PJ _ _ _ _ _ _ _ _ _ _ (B.write _ _ _ (AL.getD j []))
              rw [HG2.out]
              exact PJ.next (c := b) F2 q2 BA2 PA2 I3 F3 q3
            clear I3 F3 q3
            have HBAD := Lib.hid (bkbad_any 0 w5)
            go_wp2_with fail
            refine Calls.mono HBAD.out ?_
            rintro r w6 ⟨rfl, rfl⟩
            go_wp2
            go_roundw
            case rel => exact ⟨j + 1, HLT2.out, by go_num, HNEXT⟩
            case measure => have := HLT2.out; simp [intOf]; omega
          · have hje : j = AL.length := by rw [← HM.out]; omega
            have HNEXT : Hid (PJ w base g lv hs (.slice a3 M c3) AL vv lvs wr (B.putW b lvs AL (k + 1))) := by
              show PJ _ _ _ _ _ _ _ _ _ _ (if _ then _ else _)
              rw [if_pos hlive, ← hje]
              exact hJ2.out
            have hjM : ¬ (j : Int) < (M : Int) := by omega
            have hjB : decide ((j : Int) < (M : Int)) = false := decide_eq_false hjM
            have hjP : ((j : Int) < (M : Int)) = False := eq_false hjM
            clear hJ2 hje
            go_wp2
            go_roundw
            case rel => exact ⟨k + 1, HLT.out, by go_num, HNEXT⟩
            case measure => have := HLT.out; simp [intOf]; omega
      · have hl0 : B.live1 lvs k = false := by simpa using hlive
        rw [hl0] at HIS
        have HNEXT : Hid (PJ w base g lv hs (.slice a3 M c3) AL vv lvs wr (B.putW b lvs AL (k + 1))) := by
          show PJ _ _ _ _ _ _ _ _ _ _ (if _ then _ else _)
          rw [if_neg hlive]
          exact hJ.out
        clear hJ hlive hl0
        go_wp2_with fail
        refine Calls.mono HIS.out ?_
        rintro r w5 ⟨rfl, rfl⟩
        go_wp2
        go_roundw
        case rel => exact ⟨k + 1, HLT.out, by go_num, HNEXT⟩
        case measure => have := HLT.out; simp [intOf]; omega
    · have hke : k = N := by omega
      have hJ1 : Hid (PJ w base g lv hs (.slice a3 M c3) AL vv lvs wr (B.flW (B.putW b lvs AL N) lvs 0)) := by
        show PJ _ _ _ _ _ _ _ _ _ _ (B.putW b lvs AL N)
        rw [← hke]; exact hJ.out
      have hkN : ¬ (k : Int) < (N : Int) := by omega
      have hkB : decide ((k : Int) < (N : Int)) = false := decide_eq_false hkN
      have hkP : ((k : Int) < (N : Int)) = False := eq_false hkN
      clear hJ hke
      obtain ⟨u, p1, p2, p3⟩ := B.putW_spec HU.out lvs H32.out h8.out (by rw [← HM.out]; omega) N (by rw [← HN.out]; exact Nat.le_refl _)
      obtain ⟨W1, hW1⟩ : ∃ W1, W1 = B.putW b lvs AL N := ⟨_, rfl⟩
      rw [← hW1] at hJ1 u p1 p2 p3
      have HW1 := Lib.hid hW1
      have HU1 := Lib.hid u
      have HL1 : Hid (W1.ds.length = N) := by show _ = _; rw [p2, HN.out]
      have HLEN1 : Hid (Calls Try.prog 55 #[.pointer (some ⟨g, 0, none⟩)] wr fun e w' => e = .returned (.int .i64 (N : Nat)) ∧ wr = w') := by
        obtain ⟨hs1, I1, _⟩ := hJ1.out
        have := blen_any _ base g lv hs1 _ I1
        rw [show (B.flW W1 lvs 0).ds.length = N from HL1.out] at this
        exact this
      clear u p1 p2 p3 hW1
      go_wp2_with fail
      refine Calls.mono HLEN1.out ?_
      rintro r w4 ⟨rfl, rfl⟩
      go_wp2
      go_loopw [59] (fun i X => ∃ k : Nat, k ≤ N ∧ i = .int .i64 k ∧ Hid (PJ w base g lv hs (.slice a3 M c3) AL vv lvs X (B.flW W1 lvs k))) (fun i _ => N - (intOf i).toNat)
      case atStart => exact ⟨0, Nat.zero_le _, rfl, hJ1⟩
      case round =>
        obtain ⟨k, hk, rfl, hJ⟩ := hrel
        by_cases hlt : k < N
        · obtain ⟨hs1, I1, F1, q1, BA1, PA1⟩ := hJ.out
          have hkN : (k : Int) < (N : Int) := by omega
          have hk0 : (0 : Int) ≤ (k : Int) := by omega
          have hk1' : IntKind.i64.wrap ((k : Int) + 1) = ((k + 1 : Nat) : Int) := by rw [IntKind.wrap_i64]; omega
          have HIS := Lib.hid (bkis_any vv lvs k ‹_› BA1.bools (by omega))
          have HLT := Lib.hid hlt
          by_cases hlive : B.live1 lvs k = true
          · rw [hlive] at HIS
            obtain ⟨f1, f2, f3, f4⟩ := B.flW_spec HU1.out lvs k (by rw [HL1.out]; exact hk)
            have hkl : k < (B.flW W1 lvs k).ds.length := by rw [f3, HL1.out]; exact hlt
            have hdk : (B.dk (B.flW W1 lvs k) (k : Int)).f = false := by
              rw [B.dk_nat (List.getElem?_eq_getElem hkl)]
              exact f1.fine _ (List.getElem_mem hkl)
            have HFL := bflush_yes _ base g lv hs1 _ k I1 hkl f1.down
            rw [hdk] at HFL
            have HFL := Lib.hid HFL
            have HF := Lib.hid (And.intro F1 (And.intro q1 (And.intro BA1 PA1)))
            clear I1 F1 q1 BA1 PA1 f1 f2 f3 f4 hkl hdk hJ hlt
            go_wp2_with fail
            refine Calls.mono HIS.out ?_
            rintro r w5 ⟨rfl, rfl⟩
            go_wp2_with fail
            refine Calls.mono HFL.out ?_
            rintro r w5 ⟨rfl, hs3, I3, F3, q3⟩
            have HNEXT : Hid (PJ w base g lv hs (.slice a3 M c3) AL vv lvs w5 (B.flW W1 lvs (k + 1))) := by
              obtain ⟨F2, q2, BA2, PA2⟩ := HF.out
              show PJ _ _ _ _ _ _ _ _ _ _ (if _ then _ else _)
              rw [if_pos hlive]
              exact PJ.next (c := b) F2 q2 BA2 PA2 I3 F3 q3
            clear I3 F3 q3
            have HBAD := Lib.hid (bkbad_any 0 w5)
            go_wp2_with fail
            refine Calls.mono HBAD.out ?_
            rintro r w6 ⟨rfl, rfl⟩
            go_wp2
            go_roundw
            case rel => exact ⟨k + 1, HLT.out, by go_num, HNEXT⟩
            case measure => have := HLT.out; simp [intOf]; omega
          · have hl0 : B.live1 lvs k = false := by simpa using hlive
            rw [hl0] at HIS
            have HNEXT : Hid (PJ w base g lv hs (.slice a3 M c3) AL vv lvs wr (B.flW W1 lvs (k + 1))) := by
              show PJ _ _ _ _ _ _ _ _ _ _ (if _ then _ else _)
              rw [if_neg hlive]
              exact hJ.out
            clear I1 F1 q1 BA1 PA1 hJ hlive hl0
            go_wp2_with fail
            refine Calls.mono HIS.out ?_
            rintro r w5 ⟨rfl, rfl⟩
            go_wp2
            go_roundw
            case rel => exact ⟨k + 1, HLT.out, by go_num, HNEXT⟩
            case measure => have := HLT.out; simp [intOf]; omega
        · have hke : k = N := by omega
          have hkN : ¬ (k : Int) < (N : Int) := by omega
          have hkB : decide ((k : Int) < (N : Int)) = false := decide_eq_false hkN
          have hkP : ((k : Int) < (N : Int)) = False := eq_false hkN
          have HFIN : Hid (PJ w base g lv hs (.slice a3 M c3) AL vv lvs wr (B.putB b lvs AL)) := by
            show PJ _ _ _ _ _ _ _ _ _ _ (B.flW (B.putW b lvs AL b.ds.length) lvs b.ds.length)
            rw [← HN.out, ← HW1.out, ← hke]; exact hJ.out
          clear hJ hke
          go_wp2
          go_ret
          obtain ⟨hs1, I1, F1, q1, _⟩ := HFIN.out
          exact ⟨rfl, hs1, I1, F1, q1⟩
end Go.Proofs.Ytenjpldinnbcbaa
