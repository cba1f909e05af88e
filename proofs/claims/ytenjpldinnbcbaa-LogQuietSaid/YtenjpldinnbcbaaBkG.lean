/- Merged: BkQ, BkG. -/
import Derived.Test.YtenjpldinnbcbaaBkA
import Derived.Test.YtenjpldinnbcbaaBen
import Derived.Test.YtenjpldinnbcbaaInfo
import Derived.Test.YtenjpldinnbcbaaBEq
/- The walk of backup.Put. -/

namespace Go.Proofs.Ytenjpldinnbcbaa
open Go.RowKit
set_option linter.unusedVariables false
set_option linter.unusedSimpArgs false
set_option maxRecDepth 100000
set_option maxHeartbeats 2000000

/-- in the midst of a Put: the bench, and what is read -/
def PJ (w : World) (base g : Nat) (lv : Value) (hs : List (Nat × Value)) (av : Value) (all : List (List Nat)) (vv : Value) (lvs : List Bool) (X : World) (c : B.Bn) : Prop :=
  ∃ hs', IsBench X base g lv hs' c ∧ Fr (ofB g lv hs) w X ∧ (∀ y, ofB g lv hs' y → ofB g lv hs y ∨ w.heap.size ≤ y) ∧ BA (ofB g lv hs') X vv lvs ∧ PA (ofB g lv hs') X av all
theorem PJ.next {w : World} {base g : Nat} {lv : Value} {hs : List (Nat × Value)} {av : Value} {all : List (List Nat)} {vv : Value} {lvs : List Bool} {X Y : World} {c c' : B.Bn} {hs1 hs2 : List (Nat × Value)}
    (hF : Fr (ofB g lv hs) w X) (hq : ∀ y, ofB g lv hs1 y → ofB g lv hs y ∨ w.heap.size ≤ y) (hBA : BA (ofB g lv hs1) X vv lvs) (hPA : PA (ofB g lv hs1) X av all)
    (hB : IsBench Y base g lv hs2 c') (hF2 : Fr (ofB g lv hs1) X Y) (hq2 : ∀ y, ofB g lv hs2 y → ofB g lv hs1 y ∨ X.heap.size ≤ y) : PJ w base g lv hs av all vv lvs Y c' :=
  ⟨hs2, hB, hF.transN hF2 hq, fun y hy => by
    rcases hq2 y hy with h1 | h1
    · exact hq y h1
    · exact .inr (Nat.le_trans hF.size h1), hBA.step hF2 hq2, hPA.step hF2 hq2⟩
/-- one row just built, and more rows behind it -/
theorem wpList_append_rowsA {P : Program} {w : World} {ops : Array Oper} {rest : List Oper} {o : Oper} {a : Act} {Q : Exit → Act → World → Prop} (hgd : o.guard = none) (s x : Operand) (t : TypeId)
    (ho : o.op = .call { callee := .builtin .append, args := #[s, x], argTypes := #[t, t] })
    (i : TypeInfo) (ht : P.underlying t = some (.slice 48)) (hi : P.info? 48 = some i) (hz : i.zero = some (.slice none 0 0)) (hsize : i.size = 1) (hby : i.bytes = 24)
    (base : Nat) (w1 : World) (g : Nat) (hv : Value) (l : List Nat) (hw : w = w1.alloc (.cells #[hv] 48)) (hg : g = w1.heap.size) (hs : a.eval s = .slice (some ⟨g, 0, none⟩) 1 1) (hO : Own w1 base hv l)
    (S : Nat → Prop) (hS : ∀ y, S y → y < base) (v : Value) (ls : List (List Nat)) (hx : a.eval x = v) (hown : PA S w1 v ls)
    (h63 : ls.length ≤ 1048576) (hbase : base ≤ w1.heap.size)
    (h : ∀ v' w', PA S w' v' (l :: ls) → Below w1.heap.size w1 w' → wpList P ops Q rest (a.put o.dst v') w') : wpList P ops Q (o :: rest) a w := by
  subst hg
  have hB : Below w1.heap.size w1 w := by rw [hw]; exact belA1 (belR _)
  obtain ⟨ao, cap, cs, rfl, h1, h2, h0, hA, hl, hv2, hBy⟩ := hown
  have hone : ∀ u ∈ cs, u.oneCell' = true := by
    intro u hu
    obtain ⟨k, hk, e⟩ := List.getElem_of_mem hu
    obtain ⟨c, e2, hc, _⟩ := hBy k (by rw [← hl]; exact hk)
    rw [List.getElem?_eq_getElem hk, e] at e2
    cases e2
    exact hc.one
  have hA2 : At w ao cs := hA.fr (S := fun _ => False) (n := ls.length) (cap := cap) (Fr.of_below hB) (fun _ _ _ => id)
  have hr : w.ownsRow base 48 1 (.slice (some ⟨w1.heap.size, 0, none⟩) 1 1) 1 [hv] := by rw [hw]; exact World.ownsRow_lit w1 #[hv] 1 hbase (by simp [maxLen]) rfl
  refine wpList_append_at hgd s x t ho base 48 i (.slice none 0 0) 1 24 ht hi hz hsize hby rfl (by decide) _ 1 [hv] hs hr ao ls.length cap cs hx h0 h1 (by simpa using hl) hA2 hone (by simp only [maxLen]; omega) (by omega) (Nat.le_trans hbase hB.size) ?_
  intro v' w' hown' hgr _
  have hB' : Below w1.heap.size w1 w' := belG hB hgr (fun g hg => by cases hg; exact Nat.le_refl _)
  refine h v' w' (PA.of_rowB (base := base) (cs := hv :: cs) ?_ ?_ hS ?_) hB'
  · rw [Nat.add_comm] at hown'; exact hown'
  · simp [hl]
  · intro k hk
    cases k with
    | zero =>
      refine ⟨hv, rfl, ((hO.byt).up hB).keptB hgr (.inr fun g hg e => ?_), fun _ y hy hs => ?_⟩
      · cases e; exact Nat.lt_irrefl _ (hO.2.lt _ hg).2
      · have := (hO.2.lt y hy).1; have := hS y hs; omega
    | succ k =>
      obtain ⟨c, e, hc, hcv⟩ := hBy k (by simpa using hk)
      refine ⟨c, e, (hc.up hB).keptB hgr ?_, hcv⟩
      by_cases hne : ls.getD k [] = []
      · exact .inl hne
      · refine .inr fun g hg e => ?_
        cases e
        exact Nat.lt_irrefl _ (hc.blkN hne hg)
attribute [local irreducible] Go.Calls Byt Own Parts PA BA Bools
theorem bkput_no (g : Nat) (vv : Value) (e x : Int) (v : Value) (data : List (List Nat)) (w : World) (h : Parts w v data) (hn : mayB e x data = false) :
    Calls Try.prog 17 #[.pointer (some ⟨g, 0, none⟩), vv, .int .i64 e, .int .i64 x, v] w fun r w' => r = .returned (.int .i64 1) ∧ Below w.heap.size w w' := by
  have H := Lib.hid (bkmay_no e x v data w h hn)
  clear h hn
  go_enter Try.func17, Try.ntmps17
  go_wp2_with fail
  refine Calls.mono H.out ?_
  rintro r w1 ⟨rfl, D⟩
  go_wp2
  go_ret
  exact ⟨rfl, D⟩
theorem bkput_yes (w : World) (base g : Nat) (lv : Value) (hs : List (Nat × Value)) (b : B.Bn) (vv : Value) (lvs : List Bool) (e x : Nat) (v : Value) (data : List (List Nat))
    (h : IsBench w base g lv hs b) (hU : B.Up b) (hb0 : base ≤ w.heap.size) (hL : BA (ofB g lv hs) w vv lvs) (hP : PA (ofB g lv hs) w v data) (he : e < 65536) (hx : x ≤ 16) (hl : data.length ≤ 28) (h32 : ∀ p ∈ data, p.length = 32)
    (hn : b.ds.length ≤ 8) (hp : ∀ d ∈ b.ds, d.p.length ≤ 1000000) (hw : 0 ≤ b.writes ∧ b.writes ≤ 1000000000) :
    Calls Try.prog 17 #[.pointer (some ⟨g, 0, none⟩), vv, .int .i64 (e : Int), .int .i64 (x : Int), v] w fun r w' => r = .returned (.int .i64 0) ∧ ∃ hs', IsBench w' base g lv hs' (B.putB b lvs (headL e x data :: data)) ∧ Fr (ofB g lv hs) w w' ∧ ∀ y, ofB g lv hs' y → ofB g lv hs y ∨ w.heap.size ≤ y := by
  obtain ⟨j0, hj, hy0, hy1, hy2⟩ := info_parts parts_info
  have hHL := headL_len e x data
  obtain ⟨H1, hH1⟩ : ∃ H1, H1 = headL e x data := ⟨_, rfl⟩
  have hdl : (H1 :: data).length = data.length + 1 := rfl
  have h32' : ∀ p ∈ (H1 :: data), p.length = 32 := by
    intro p hp
    rcases List.mem_cons.1 hp with rfl | hp
    · rw [hH1]; exact hHL
    · exact h32 p hp
  have HMAY := Lib.hid (bkmay_yes e x v data w hP.parts he hx hl h32)
  have HHEAD := Lib.hid (fun X (hX : Below w.heap.size w X) => bkhead_any e x v data X (hP.parts.up hX) he hx hl)
  rw [← hH1] at HHEAD ⊢
  obtain ⟨AL, hAL⟩ : ∃ AL, AL = H1 :: data := ⟨_, rfl⟩
  rw [← hAL] at hdl h32' ⊢
  have HAL := Lib.hid hAL
  have HB := Lib.hid h
  have HL := Lib.hid hL
  have HP := Lib.hid hP
  have HLT := Lib.hid h.lts
  obtain ⟨al, cl, rfl, hc1, hc2⟩ := hP.shape
  have HC := Lib.hid (And.intro hc1 hc2)
  have HHL : Hid (H1.length = 32) := by show _ = _; rw [hH1]; exact hHL
  have hHL := HHL.out
  have H32 := Lib.hid h32'
  clear h hL hP h32 h32' hAL hH1 he hx hc1 hc2
  go_enter Try.func17, Try.ntmps17
  go_wp2_with fail
  refine Calls.mono HMAY.out ?_
  rintro r w1 ⟨rfl, b1⟩
  go_wp2_with fail
  refine Calls.mono (HHEAD.out w1 b1) ?_
  rintro r w2 ⟨hv, rfl, O2, b2⟩
  have B2 := belT b1 b2
  obtain ⟨ah, kh, rfl, _, _⟩ := O2.byt.shapeN hHL
  have O2h := Lib.hid O2
  clear O2
  go_wp2_with (at_builtin; go_loud (refine wpList_append_rowsA rfl _ _ 31 rfl j0 Try.underlying31 hj hy0 hy1 hy2 w1.heap.size w2 _ _ H1 rfl rfl rfl O2h.out (ofB g lv hs) (fun y hy => Nat.lt_of_lt_of_le (HLT.out y hy) b1.size) _ data rfl (HP.out.up B2) (by omega) b2.size ?_); intro v3 w3 P3 b3)
  have B3 := belT B2 b3
  rw [← HAL.out] at P3
  have h52 : AL.length ≤ 29 := by omega
  obtain ⟨a3, c3, rfl, _, _⟩ := P3.shape
  obtain ⟨M, hM⟩ : ∃ M, M = AL.length := ⟨_, rfl⟩
  rw [← hM] at P3 h52 hdl ⊢
  have HDL := Lib.hid hdl
  clear hdl
  have HM := Lib.hid hM
  have h8 : Hid (∀ p ∈ AL, ∀ y ∈ p, y < 256) := Lib.hid P3.parts.bytes
  obtain ⟨N, hN⟩ : ∃ N, N = b.ds.length := ⟨_, rfl⟩
  have HN := Lib.hid hN
  have HU := Lib.hid hU
  have HPW := Lib.hid (And.intro hp hw)
  have H0 : Hid (PJ w base g lv hs (.slice a3 M c3) AL vv lvs w3 (B.putW b lvs AL 0)) := ⟨hs, HB.out.up B3, Fr.of_below B3, fun y hy => .inl hy, HL.out.up B3, P3⟩
  have HLEN := Lib.hid (blen_any w3 base g lv hs b (HB.out.up B3))
  rw [← HN.out] at hn HLEN
  clear hM hN hU hp hw P3 b1 b2 b3 B2
  refine Calls.mono HLEN.out ?_
  rintro r w4 ⟨rfl, rfl⟩
  go_wp2
  go_loopw [32] (fun i X => ∃ k : Nat, k ≤ N ∧ i = .int .i64 k ∧ Hid (PJ w base g lv hs (.slice a3 M c3) AL vv lvs X (B.putW b lvs AL k))) (fun i _ => N - (intOf i).toNat)
  case atStart => exact ⟨0, Nat.zero_le _, rfl, H0⟩
  case round =>
    obtain ⟨k, hk, rfl, hJ⟩ := hrel
    by_cases hlt : k < N
    · obtain ⟨hs1, I1, F1, q1, BA1, PA1⟩ := hJ.out
      have hkN : (k : Int) < (N : Int) := by omega
      have hk0 : (0 : Int) ≤ (k : Int) := by omega
      have hk1' : IntKind.i64.wrap ((k : Int) + 1) = ((k + 1 : Nat) : Int) := by rw [IntKind.wrap_i64]; omega
      have HIS := Lib.hid (bkis_any vv lvs k ‹_› BA1.bools (by omega))
      have HLT := Lib.hid hlt
      clear I1 F1 q1 BA1 PA1
      by_cases hlive : B.live1 lvs k = true
      · rw [hlive] at HIS
        go_wp2_with fail
        refine Calls.mono HIS.out ?_
        rintro r w5 ⟨rfl, rfl⟩
        have HJ0 : Hid (PJ w base g lv hs (.slice a3 M c3) AL vv lvs wr (B.wrk (B.putW b lvs AL k) k AL 0)) := hJ
        clear hJ
        go_wp2
        go_loopw [41] (fun i Y => ∃ j : Nat, j ≤ M ∧ i = .int .i64 j ∧ Hid (PJ w base g lv hs (.slice a3 M c3) AL vv lvs Y (B.wrk (B.putW b lvs AL k) k AL j))) (fun i _ => M - (intOf i).toNat)
        case atStart => exact ⟨0, Nat.zero_le _, rfl, HJ0⟩
        case round =>
          obtain ⟨j, hj, rfl, hJ2⟩ := hrel
          by_cases hlt2 : j < M
          · obtain ⟨hs2, I2, F2, q2, BA2, PA2⟩ := hJ2.out
            obtain ⟨bb, ob, cc, p, rfl, hcc, hp, hy, hap⟩ := PA2.get (k := j) (by rw [← HM.out]; exact hlt2)
            have hp32 : p.length = 32 := H32.out p (List.mem_of_getElem? hp.out)
            obtain ⟨ac, kc, rfl, _, _⟩ := hy.shapeN hp32
            obtain ⟨m1, m2, m3, m4, m5⟩ := B.mid_spec HU.out lvs H32.out h8.out (by rw [← HM.out]; omega) (N := 1000000) HPW.out.1 (m := k) (k := j) (by rw [← HN.out]; exact HLT.out) (by rw [← HM.out]; omega)
            have hgp : AL.getD j [] = p := by rw [List.getD, hp.out]; rfl
            have hwE := (m1.write (m := k) (a := 6 + j) (x := p) (by rw [m2, ← HN.out]; exact HLT.out) (by omega) hp32).1
            have hbig : (b.ds.length + 1) * AL.length ≤ 9 * 29 := Nat.mul_le_mul (by rw [← HN.out]; omega) (by rw [← HM.out]; omega)
            have HW := Lib.hid (bwrite_any _ base g lv hs2 _ (k : Int) ((6 + j : Nat) : Int) (.slice ac 32 kc) p I2 hy (hap (by intro e; rw [e] at hp32; cases hp32)) (Nat.le_trans hb0 F2.size)
              (fun d hd => by have := m3 d hd; omega) (by have := HPW.out.2; omega) (by rw [m1.left]; decide))
            rw [hwE] at HW
            have HG2 := Lib.hid hgp
            have HF := Lib.hid (And.intro F2 (And.intro q2 (And.intro BA2 PA2)))
            have hjM : (j : Int) < (M : Int) := by omega
            have hj0 : (0 : Int) ≤ (j : Int) := by omega
            have hj1' : IntKind.i64.wrap ((j : Int) + 1) = ((j + 1 : Nat) : Int) := by rw [IntKind.wrap_i64]; omega
            have hj6 : IntKind.i64.wrap (6 + (j : Int)) = ((6 + j : Nat) : Int) := by rw [IntKind.wrap_i64]; omega
            have HLT2 := Lib.hid hlt2
            clear I2 F2 q2 BA2 PA2 hy hap hp32 m1 m2 m3 m4 m5 hgp hwE hbig hlt2 hJ2
            go_wp2_with fail
            refine Calls.mono HW.out ?_
            rintro r w5 ⟨rfl, hs3, I3, F3, q3⟩
            have HNEXT : Hid (PJ w base g lv hs (.slice (some ⟨bb, ob, none⟩) M c3) AL vv lvs w5 (B.wrk (B.putW b lvs AL k) k AL (j + 1))) := by
              obtain ⟨F2, q2, BA2, PA2⟩ := HF.out
              show PJ _ _ _ _ _ _ _ _ _ _ (B.write _ _ _ (AL.getD j []))
              rw [HG2.out]
              exact PJ.next (c := b) F2 q2 BA2 PA2 I3 F3 q3
            clear I3 F3 q3
            have HBAD := Lib.hid (bkbad_any 0 w5)
            go_wp2_with fail
            refine Calls.mono HBAD.out ?_
            rintro r w6 ⟨rfl, rfl⟩
            go_wp2
            go_roundw
            case rel => exact ⟨j + 1, HLT2.out, by go_num, HNEXT⟩
            case measure => have := HLT2.out; simp [intOf]; omega
          · have hje : j = AL.length := by rw [← HM.out]; omega
            have HNEXT : Hid (PJ w base g lv hs (.slice a3 M c3) AL vv lvs wr (B.putW b lvs AL (k + 1))) := by
              show PJ _ _ _ _ _ _ _ _ _ _ (if _ then _ else _)
              rw [if_pos hlive, ← hje]
              exact hJ2.out
            have hjM : ¬ (j : Int) < (M : Int) := by omega
            have hjB : decide ((j : Int) < (M : Int)) = false := decide_eq_false hjM
            have hjP : ((j : Int) < (M : Int)) = False := eq_false hjM
            clear hJ2 hje
            go_wp2
            go_roundw
            case rel => exact ⟨k + 1, HLT.out, by go_num, HNEXT⟩
            case measure => have := HLT.out; simp [intOf]; omega
      · have hl0 : B.live1 lvs k = false := by simpa using hlive
        rw [hl0] at HIS
        have HNEXT : Hid (PJ w base g lv hs (.slice a3 M c3) AL vv lvs wr (B.putW b lvs AL (k + 1))) := by
          show PJ _ _ _ _ _ _ _ _ _ _ (if _ then _ else _)
          rw [if_neg hlive]
          exact hJ.out
        clear hJ hlive hl0
        go_wp2_with fail
        refine Calls.mono HIS.out ?_
        rintro r w5 ⟨rfl, rfl⟩
        go_wp2
        go_roundw
        case rel => exact ⟨k + 1, HLT.out, by go_num, HNEXT⟩
        case measure => have := HLT.out; simp [intOf]; omega
    · have hke : k = N := by omega
      have hJ1 : Hid (PJ w base g lv hs (.slice a3 M c3) AL vv lvs wr (B.flW (B.putW b lvs AL N) lvs 0)) := by
        show PJ _ _ _ _ _ _ _ _ _ _ (B.putW b lvs AL N)
        rw [← hke]; exact hJ.out
      have hkN : ¬ (k : Int) < (N : Int) := by omega
      have hkB : decide ((k : Int) < (N : Int)) = false := decide_eq_false hkN
      have hkP : ((k : Int) < (N : Int)) = False := eq_false hkN
      clear hJ hke
      obtain ⟨u, p1, p2, p3⟩ := B.putW_spec HU.out lvs H32.out h8.out (by rw [← HM.out]; omega) N (by rw [← HN.out]; exact Nat.le_refl _)
      obtain ⟨W1, hW1⟩ : ∃ W1, W1 = B.putW b lvs AL N := ⟨_, rfl⟩
      rw [← hW1] at hJ1 u p1 p2 p3
      have HW1 := Lib.hid hW1
      have HU1 := Lib.hid u
      have HL1 : Hid (W1.ds.length = N) := by show _ = _; rw [p2, HN.out]
      have HLEN1 : Hid (Calls Try.prog 55 #[.pointer (some ⟨g, 0, none⟩)] wr fun e w' => e = .returned (.int .i64 (N : Nat)) ∧ wr = w') := by
        obtain ⟨hs1, I1, _⟩ := hJ1.out
        have := blen_any _ base g lv hs1 _ I1
        rw [show (B.flW W1 lvs 0).ds.length = N from HL1.out] at this
        exact this
      clear u p1 p2 p3 hW1
      go_wp2_with fail
      refine Calls.mono HLEN1.out ?_
      rintro r w4 ⟨rfl, rfl⟩
      go_wp2
      go_loopw [59] (fun i X => ∃ k : Nat, k ≤ N ∧ i = .int .i64 k ∧ Hid (PJ w base g lv hs (.slice a3 M c3) AL vv lvs X (B.flW W1 lvs k))) (fun i _ => N - (intOf i).toNat)
      case atStart => exact ⟨0, Nat.zero_le _, rfl, hJ1⟩
      case round =>
        obtain ⟨k, hk, rfl, hJ⟩ := hrel
        by_cases hlt : k < N
        · obtain ⟨hs1, I1, F1, q1, BA1, PA1⟩ := hJ.out
          have hkN : (k : Int) < (N : Int) := by omega
          have hk0 : (0 : Int) ≤ (k : Int) := by omega
          have hk1' : IntKind.i64.wrap ((k : Int) + 1) = ((k + 1 : Nat) : Int) := by rw [IntKind.wrap_i64]; omega
          have HIS := Lib.hid (bkis_any vv lvs k ‹_› BA1.bools (by omega))
          have HLT := Lib.hid hlt
          by_cases hlive : B.live1 lvs k = true
          · rw [hlive] at HIS
            obtain ⟨f1, f2, f3, f4⟩ := B.flW_spec HU1.out lvs k (by rw [HL1.out]; exact hk)
            have hkl : k < (B.flW W1 lvs k).ds.length := by rw [f3, HL1.out]; exact hlt
            have hdk : (B.dk (B.flW W1 lvs k) (k : Int)).f = false := by
              rw [B.dk_nat (List.getElem?_eq_getElem hkl)]
              exact f1.fine _ (List.getElem_mem hkl)
            have HFL := bflush_yes _ base g lv hs1 _ k I1 hkl f1.down
            rw [hdk] at HFL
            have HFL := Lib.hid HFL
            have HF := Lib.hid (And.intro F1 (And.intro q1 (And.intro BA1 PA1)))
            clear I1 F1 q1 BA1 PA1 f1 f2 f3 f4 hkl hdk hJ hlt
            go_wp2_with fail
            refine Calls.mono HIS.out ?_
            rintro r w5 ⟨rfl, rfl⟩
            go_wp2_with fail
            refine Calls.mono HFL.out ?_
            rintro r w5 ⟨rfl, hs3, I3, F3, q3⟩
            have HNEXT : Hid (PJ w base g lv hs (.slice a3 M c3) AL vv lvs w5 (B.flW W1 lvs (k + 1))) := by
              obtain ⟨F2, q2, BA2, PA2⟩ := HF.out
              show PJ _ _ _ _ _ _ _ _ _ _ (if _ then _ else _)
              rw [if_pos hlive]
              exact PJ.next (c := b) F2 q2 BA2 PA2 I3 F3 q3
            clear I3 F3 q3
            have HBAD := Lib.hid (bkbad_any 0 w5)
            go_wp2_with fail
            refine Calls.mono HBAD.out ?_
            rintro r w6 ⟨rfl, rfl⟩
            go_wp2
            go_roundw
            case rel => exact ⟨k + 1, HLT.out, by go_num, HNEXT⟩
            case measure => have := HLT.out; simp [intOf]; omega
          · have hl0 : B.live1 lvs k = false := by simpa using hlive
            rw [hl0] at HIS
            have HNEXT : Hid (PJ w base g lv hs (.slice a3 M c3) AL vv lvs wr (B.flW W1 lvs (k + 1))) := by
              show PJ _ _ _ _ _ _ _ _ _ _ (if _ then _ else _)
              rw [if_neg hlive]
              exact hJ.out
            clear I1 F1 q1 BA1 PA1 hJ hlive hl0
            go_wp2_with fail
            refine Calls.mono HIS.out ?_
            rintro r w5 ⟨rfl, rfl⟩
            go_wp2
            go_roundw
            case rel => exact ⟨k + 1, HLT.out, by go_num, HNEXT⟩
            case measure => have := HLT.out; simp [intOf]; omega
        · have hke : k = N := by omega
          have hkN : ¬ (k : Int) < (N : Int) := by omega
          have hkB : decide ((k : Int) < (N : Int)) = false := decide_eq_false hkN
          have hkP : ((k : Int) < (N : Int)) = False := eq_false hkN
          have HFIN : Hid (PJ w base g lv hs (.slice a3 M c3) AL vv lvs wr (B.putB b lvs AL)) := by
            show PJ _ _ _ _ _ _ _ _ _ _ (B.flW (B.putW b lvs AL b.ds.length) lvs b.ds.length)
            rw [← HN.out, ← HW1.out, ← hke]; exact hJ.out
          clear hJ hke
          go_wp2
          go_ret
          obtain ⟨hs1, I1, F1, q1, _⟩ := HFIN.out
          exact ⟨rfl, hs1, I1, F1, q1⟩
end Go.Proofs.Ytenjpldinnbcbaa
/- The walks of backup.of and Get. -/

namespace Go.Proofs.Ytenjpldinnbcbaa
open Go.RowKit
set_option linter.unusedVariables false
set_option linter.unusedSimpArgs false
set_option maxRecDepth 100000
set_option maxHeartbeats 2000000

namespace B
/-- power; its disks are as disks are -/
structure Lv (b : Bn) : Prop where
  down : b.down = false
  ok : ∀ d ∈ b.ds, D.Ok d
theorem Up.lv {b : Bn} (h : Up b) : Lv b := ⟨h.down, h.ok⟩
def lookB (b : Bn) (i a : Nat) : List Nat := D.look (b.ds.getD i D.blank) a
def failB (b : Bn) (i : Nat) : Bool := (b.ds.getD i D.blank).f
theorem Lv.look {b : Bn} (h : Lv b) {i a : Nat} (hi : i < b.ds.length) (ha : a < 52) : (lookB b i a).length = 32 ∧ ∀ x ∈ lookB b i a, x < 256 := by
  unfold lookB
  rw [show b.ds.getD i D.blank = b.ds[i] by simp [List.getD, hi]]
  exact D.look_ok (h.ok _ (List.getElem_mem hi)) ha
theorem Lv.read {b : Bn} (h : Lv b) {i a : Nat} (hi : i < b.ds.length) (ha : a < 52) : readE b (i : Int) (a : Int) = (if failB b i then 5 else 0) ∧ readL b (i : Int) (a : Int) = (if failB b i then [] else lookB b i a) := by
  have hk := dk_nat (List.getElem?_eq_getElem hi)
  have hg : b.ds.getD i D.blank = b.ds[i] := by simp [List.getD, hi]
  have hm := may_ok h.down hi
  unfold readE readL failB lookB
  rw [hm, hk, hg]
  have h0 : ¬ ((0 : Int) ≠ 0) := by decide
  rw [if_neg h0, if_neg h0]
  unfold D.readL D.may
  cases hf : (b.ds[i]).f
  · rw [if_neg (by decide), if_neg (by omega)]
    exact ⟨rfl, rfl⟩
  · exact ⟨rfl, rfl⟩
def manyB (b : Bn) (i : Nat) : Nat := (lookB b i 6).getD 7 0
def ofL (b : Bn) (i : Nat) : List (List Nat) := (List.range (manyB b i)).map (fun a => lookB b i (7 + a))
def ofOk (b : Bn) (i e x : Nat) : Bool := !failB b i && decide (manyB b i ≤ 28) && decide (lookB b i 6 = headL e x (ofL b i))
def getO (b : Bn) (lv : List Bool) (e x : Nat) (n : Nat) : Option Nat := (List.range n).find? (fun i => live1 lv i && ofOk b i e x)
theorem getO_succ_yes {b : Bn} {lv : List Bool} {e x n N : Nat} (h0 : getO b lv e x n = none) (h : (live1 lv n && ofOk b n e x) = true) (hN : n < N) : getO b lv e x N = some n := by
  obtain ⟨k, rfl⟩ : ∃ k, N = n + 1 + k := ⟨N - n - 1, by omega⟩
  unfold getO at *
  rw [List.range_add, List.find?_append, List.range_succ, List.find?_append, h0]
  simp only [Option.none_or]
  rw [List.find?_cons, h]
  rfl
theorem getO_succ_no {b : Bn} {lv : List Bool} {e x n : Nat} (h0 : getO b lv e x n = none) (h : (live1 lv n && ofOk b n e x) = false) : getO b lv e x (n + 1) = none := by
  unfold getO at *
  rw [List.range_succ, List.find?_append, h0]
  simp only [Option.none_or]
  rw [List.find?_cons, h]
  rfl
end B
theorem bread_lv (w : World) (base g : Nat) (lv : Value) (hs : List (Nat × Value)) (b : B.Bn) (i a : Nat) (h : IsBench w base g lv hs b) (hL : B.Lv b) (hi : i < b.ds.length) (ha : a < 52) :
    Calls Try.prog 27 #[.pointer (some ⟨g, 0, none⟩), .int .i64 (i : Int), .int .i64 (a : Int)] w fun e w' => ∃ v, e = .returned (.tuple #[v, .int .i64 (if B.failB b i then 5 else 0)]) ∧ Own w' w.heap.size v (if B.failB b i then [] else B.lookB b i a) ∧ Below w.heap.size w w' := by
  obtain ⟨e1, e2⟩ := hL.read hi ha
  have := bread_any w base g lv hs b (i : Int) (a : Int) h
  rw [e1, e2] at this
  exact this
attribute [local irreducible] Go.Calls Byt Own Parts PA BA Bools OwnD
theorem bkof_any (w : World) (base g : Nat) (lv : Value) (hs : List (Nat × Value)) (b : B.Bn) (i e x : Nat) (h : IsBench w base g lv hs b) (hL : B.Lv b) (hi : i < b.ds.length) (hn : b.ds.length ≤ 8) (he : e < 65536) (hx : x ≤ 16) :
    Calls Try.prog 59 #[.pointer (some ⟨g, 0, none⟩), .int .i64 (i : Int), .int .i64 (e : Int), .int .i64 (x : Int)] w fun r w' => ∃ v, r = .returned (.tuple #[v, .bool (B.ofOk b i e x)]) ∧ (B.ofOk b i e x = true → OwnD w' w.heap.size v (B.ofL b i) (fun _ => False)) ∧ Below w.heap.size w w' := by
  obtain ⟨j0, hj, hy0, hy1, hy2⟩ := info_parts parts_info
  have HB := Lib.hid h
  have HRD := Lib.hid (fun (X : World) (a : Nat) (hX : Below w.heap.size w X) (ha : a < 52) => bread_lv X base g lv hs b i a (h.up hX) hL hi ha)
  have HEX := Lib.hid (And.intro he hx)
  by_cases hf : B.failB b i = true
  · have HOK : Hid (B.ofOk b i e x = false) := by show _ = _; unfold B.ofOk; rw [hf]; rfl
    rw [HOK.out]
    rw [hf] at HRD
    clear h hL hi hn he hx hf
    go_enter Try.func59, Try.ntmps59
    go_wp2_with fail
    refine Calls.mono (HRD.out _ 6 (belR _) (by decide)) ?_
    rintro r w1 ⟨v, rfl, O1, b1⟩
    go_wp2
    go_ret2
    exact ⟨_, rfl, by simp, b1⟩
  · have hf0 : B.failB b i = false := by simpa using hf
    rw [hf0] at HRD
    obtain ⟨l6, l6b⟩ := hL.look hi (a := 6) (by decide)
    obtain ⟨M, hM⟩ : ∃ M, M = B.manyB b i := ⟨_, rfl⟩
    have hMx : (B.lookB b i 6)[7]? = some M := by
      rw [hM]; unfold B.manyB
      rw [List.getD, List.getElem?_eq_getElem (by omega)]; rfl
    have hM8 : M < 256 := l6b M (List.mem_of_getElem? hMx)
    have HM := Lib.hid hM
    have HMX := Lib.hid hMx
    have HL6 := Lib.hid l6
    have HF := Lib.hid hf0
    have HLK := Lib.hid (fun a (ha : a < 52) => (hL.look hi (a := a) ha).1)
    clear h hL hn he hx hf hf0 hMx l6 l6b hM
    by_cases hbig : 28 < M
    · have HOK : Hid (B.ofOk b i e x = false) := by
        show _ = _; unfold B.ofOk; rw [← HM.out, decide_eq_false (show ¬ M ≤ 28 by omega)]; simp
      rw [HOK.out]
      have hbI : (M : Int) > 28 := by omega
      go_enter Try.func59, Try.ntmps59
      go_wp2_with fail
      refine Calls.mono (HRD.out _ 6 (belR _) (by decide)) ?_
      rintro r w1 ⟨v, rfl, O1, b1⟩
      have O1 : Own w1 w.heap.size v (B.lookB b i 6) := O1
      obtain ⟨a1, k1, rfl, _, _⟩ := O1.byt.shapeN HL6.out
      obtain ⟨bb, ob, y, rfl, hcy, hyk, hy8⟩ := O1.byt.get (k := 7) (by decide)
      have hyM : y = M := Option.some.inj (hyk.out.symm.trans HMX.out)
      rw [hyM] at hcy
      clear hyM hyk hy8
      go_wp2
      go_ret2
      exact ⟨_, rfl, by simp, b1⟩
    · have hbI : ¬ (M : Int) > 28 := by omega
      have hbB : decide ((M : Int) > 28) = false := decide_eq_false hbI
      have hbP : ((M : Int) > 28) = False := eq_false hbI
      have hM28 : M ≤ 28 := by omega
      obtain ⟨C, hC⟩ : ∃ C : Nat → List (List Nat), C = fun k => (List.range k).map (fun a => B.lookB b i (7 + a)) := ⟨_, rfl⟩
      have HCM : Hid (C M = B.ofL b i) := by show _ = _; rw [hC, HM.out]; rfl
      have HCS : Hid (∀ k, C (k + 1) = C k ++ [B.lookB b i (7 + k)]) := fun k => by rw [hC]; show List.map _ (List.range (k + 1)) = _; rw [List.range_succ, List.map_append]; rfl
      have HCL : Hid (∀ k, (C k).length = k) := fun k => by rw [hC]; simp
      have HC0 : Hid (C 0 = []) := by show _ = _; rw [hC]; rfl
      clear hC hbig
      go_enter Try.func59, Try.ntmps59
      go_wp2_with fail
      refine Calls.mono (HRD.out _ 6 (belR _) (by decide)) ?_
      rintro r w1 ⟨v, rfl, O1, b1⟩
      have O1 : Own w1 w.heap.size v (B.lookB b i 6) := O1
      obtain ⟨a1, k1, rfl, _, _⟩ := O1.byt.shapeN HL6.out
      obtain ⟨bb, ob, y, rfl, hcy, hyk, hy8⟩ := O1.byt.get (k := 7) (by decide)
      have hyM : y = M := Option.some.inj (hyk.out.symm.trans HMX.out)
      rw [hyM] at hcy
      have O1h := Lib.hid O1
      have HR0 : Hid (OwnD w1 w1.heap.size (.slice none 0 0) (C 0) (fun _ => False)) := by rw [HC0.out]; exact OwnD.nil _ _ _
      clear hyM hyk hy8 O1
      go_wp2
      go_loopw [13, 32] (fun d k X => ∃ j : Nat, j ≤ M ∧ k = .int .i64 j ∧ Hid (OwnD X w1.heap.size d (C j) (fun _ => False)) ∧ Below w1.heap.size w1 X) (fun _ k _ => M - (intOf k).toNat)
      case atStart => exact ⟨0, Nat.zero_le _, rfl, HR0, belR _⟩
      case round =>
        obtain ⟨j, hjM, rfl, hO, BX⟩ := hrel
        by_cases hlt : j < M
        · obtain ⟨ad, cd, hde, _, _⟩ := hO.out.shape
          rw [HCL.out] at hde
          subst hde
          have hjI : (j : Int) < (M : Int) := by omega
          have hj7 : IntKind.i64.wrap (7 + (j : Int)) = ((7 + j : Nat) : Int) := by rw [IntKind.wrap_i64]; omega
          have hj1' : IntKind.i64.wrap ((j : Int) + 1) = ((j + 1 : Nat) : Int) := by rw [IntKind.wrap_i64]; omega
          have HRJ := Lib.hid (HRD.out ‹_› (7 + j) (belT b1 BX) (by omega))
          have HLJ := Lib.hid (HLK.out (7 + j) (by omega))
          have HLT := Lib.hid hlt
          have hs1 : w1.heap.size ≤ _ := BX.size
          go_wp2_with fail
          refine Calls.mono HRJ.out ?_
          rintro r w2 ⟨v2, rfl, O2, b2⟩
          have O2 : Own w2 _ v2 (B.lookB b i (7 + j)) := O2
          obtain ⟨a2, k2, rfl, _, _⟩ := O2.byt.shapeN HLJ.out
          have HNX := Lib.hid HCS.out
          go_wp2_with (at_builtin; go_loud (refine wpList_append_rowD rfl _ _ 31 rfl j0 Try.underlying31 hj hy0 hy1 hy2 w1.heap.size _ (C j) (fun _ => False) rfl _ (belA1 b2) hO.out (fun g hg => hg.elim) _ _ (B.lookB b i (7 + j)) rfl (At.one _ _ _ (by first | rfl | simp)) (O2.up (belA1 (belR _))) (by rw [HCL.out]; omega) hs1 ?_); intro v3 w3 O3 g3)
          go_roundw
          case rel =>
            refine ⟨j + 1, HLT.out, by go_num, ?_, belG (belT BX (belA1 b2)) g3 (fun g hg => hO.out.ge g hg)⟩
            show OwnD _ _ _ _ _
            rw [HCS.out]
            exact O3
          case measure => have := HLT.out; simp [intOf]; omega
        · have hje : j = M := by omega
          have hjI : ¬ (j : Int) < (M : Int) := by omega
          have hjB : decide ((j : Int) < (M : Int)) = false := decide_eq_false hjI
          have hjP : ((j : Int) < (M : Int)) = False := eq_false hjI
          rw [hje, HCM.out] at hO
          have hoL : (B.ofL b i).length = M := by rw [← HCM.out, HCL.out]
          obtain ⟨ad, cd, hde, _, _⟩ := hO.out.shape
          rw [hoL] at hde
          subst hde
          have HHD := Lib.hid (bkhead_any e x _ _ _ hO.out.parts HEX.out.1 HEX.out.2 (by rw [hoL]; exact hM28))
          have HOKV : Hid (decide (B.lookB b i 6 = headL e x (B.ofL b i)) = B.ofOk b i e x) := by
            show _ = _
            unfold B.ofOk
            rw [HF.out, ← HM.out, decide_eq_true hM28]
            simp
          have HHL := Lib.hid (headL_len e x (B.ofL b i))
          clear hje hoL
          go_wp2_with fail
          refine Calls.mono HHD.out ?_
          rintro r w4 ⟨hv, rfl, O4, b4⟩
          obtain ⟨a4, k4, rfl, _, _⟩ := O4.byt.shapeN HHL.out
          have HBE := Lib.hid (bequal_any _ _ _ _ w4 (O1h.out.byt.up (belT BX b4)) O4.byt)
          rw [HOKV.out] at HBE
          go_wp2_with fail
          refine Calls.mono HBE.out ?_
          rintro r w5 ⟨rfl, rfl⟩
          go_wp2
          go_ret2
          exact ⟨_, rfl, fun _ => (hO.out.up b4).mono b1.size (fun _ _ h => h), belT b1 (belT BX b4)⟩
theorem bkget_no (g : Nat) (vv : Value) (e x : Int) (w : World) (hn : mayB e x [] = false) :
    Calls Try.prog 19 #[.pointer (some ⟨g, 0, none⟩), vv, .int .i64 e, .int .i64 x] w fun r w' => r = .returned (.tuple #[.slice none 0 0, .bool false]) ∧ Below w.heap.size w w' := by
  have H := Lib.hid (bkmay_no e x (.slice none 0 0) [] w (Parts.nil w) hn)
  clear hn
  go_enter Try.func19, Try.ntmps19
  go_wp2_with fail
  refine Calls.mono H.out ?_
  rintro r w1 ⟨rfl, D⟩
  go_wp2
  go_ret2
  exact ⟨rfl, D⟩
theorem bkget_any (w : World) (base g : Nat) (lv : Value) (hs : List (Nat × Value)) (b : B.Bn) (vv : Value) (lvs : List Bool) (e x : Nat) (h : IsBench w base g lv hs b) (hL : B.Lv b) (hn : b.ds.length ≤ 8) (hV : Bools w vv lvs) (he : e < 65536) (hx : x ≤ 16) :
    Calls Try.prog 19 #[.pointer (some ⟨g, 0, none⟩), vv, .int .i64 (e : Int), .int .i64 (x : Int)] w fun r w' => ∃ v, r = .returned (.tuple #[v, .bool (B.getO b lvs e x b.ds.length).isSome]) ∧ (∀ i, B.getO b lvs e x b.ds.length = some i → OwnD w' w.heap.size v (B.ofL b i) (fun _ => False)) ∧ Below w.heap.size w w' := by
  have HMAY := Lib.hid (bkmay_yes e x (.slice none 0 0) [] w (Parts.nil w) he hx (by simp) (by simp))
  have HLEN := Lib.hid (fun X (hX : Below w.heap.size w X) => blen_any X base g lv hs b (h.up hX))
  obtain ⟨N, hN⟩ : ∃ N, N = b.ds.length := ⟨_, rfl⟩
  have HOF := Lib.hid (fun X i (hX : Below w.heap.size w X) (hi : i < N) => bkof_any X base g lv hs b i e x (h.up hX) hL (by rw [← hN]; exact hi) hn he hx)
  have HIS := Lib.hid (fun X i (hX : Below w.heap.size w X) (hi : i ≤ 1000000) => bkis_any vv lvs i X (hV.up hX) hi)
  rw [← hN] at HLEN hn ⊢
  have HG0 : Hid (B.getO b lvs e x 0 = none) := rfl
  clear h hL hV he hx hN
  go_enter Try.func19, Try.ntmps19
  go_wp2_with fail
  refine Calls.mono HMAY.out ?_
  rintro r w1 ⟨rfl, b1⟩
  go_wp2_with fail
  refine Calls.mono (HLEN.out w1 b1) ?_
  rintro r w2 ⟨rfl, rfl⟩
  go_wp2
  go_loopw [19] (fun k X => ∃ j : Nat, j ≤ N ∧ k = .int .i64 j ∧ Hid (B.getO b lvs e x j = none) ∧ Below w.heap.size w X) (fun k _ => N - (intOf k).toNat)
  case atStart => exact ⟨0, Nat.zero_le _, rfl, HG0, b1⟩
  case round =>
    obtain ⟨j, hjN, rfl, HG, BX⟩ := hrel
    by_cases hlt : j < N
    · have hjI : (j : Int) < (N : Int) := by omega
      have hj1' : IntKind.i64.wrap ((j : Int) + 1) = ((j + 1 : Nat) : Int) := by rw [IntKind.wrap_i64]; omega
      have HISJ := Lib.hid (HIS.out ‹_› j BX (by omega))
      have HLT := Lib.hid hlt
      by_cases hlive : B.live1 lvs j = true
      · rw [hlive] at HISJ
        have HOFJ := Lib.hid (HOF.out ‹_› j BX hlt)
        clear hlt
        by_cases hok : B.ofOk b j e x = true
        · have HRES : Hid (B.getO b lvs e x N = some j) := B.getO_succ_yes HG.out (by rw [hlive, hok]; rfl) HLT.out
          rw [hok] at HOFJ
          clear hlive hok
          go_wp2_with fail
          refine Calls.mono HISJ.out ?_
          rintro r w3 ⟨rfl, rfl⟩
          go_wp2_with fail
          refine Calls.mono HOFJ.out ?_
          rintro r w4 ⟨v4, rfl, O4, b4⟩
          have O4 := O4 (by first | exact rfl | trivial)
          go_wp2
          go_ret2
          rw [HRES.out]
          exact ⟨_, rfl, fun i hi => by cases hi; exact O4.mono BX.size (fun _ _ h => h), belT BX b4⟩
        · have hok0 : B.ofOk b j e x = false := by simpa using hok
          have HG1 : Hid (B.getO b lvs e x (j + 1) = none) := B.getO_succ_no HG.out (by rw [hlive, hok0]; rfl)
          rw [hok0] at HOFJ
          clear hlive hok hok0
          go_wp2_with fail
          refine Calls.mono HISJ.out ?_
          rintro r w3 ⟨rfl, rfl⟩
          go_wp2_with fail
          refine Calls.mono HOFJ.out ?_
          rintro r w4 ⟨v4, rfl, O4, b4⟩
          go_wp2
          go_roundw
          case rel => exact ⟨j + 1, HLT.out, by go_num, HG1, belT BX b4⟩
          case measure => have := HLT.out; simp [intOf]; omega
      · have hl0 : B.live1 lvs j = false := by simpa using hlive
        rw [hl0] at HISJ
        have HG1 : Hid (B.getO b lvs e x (j + 1) = none) := B.getO_succ_no HG.out (by rw [hl0]; rfl)
        clear hlive hl0 hlt
        go_wp2_with fail
        refine Calls.mono HISJ.out ?_
        rintro r w3 ⟨rfl, rfl⟩
        go_wp2
        go_roundw
        case rel => exact ⟨j + 1, HLT.out, by go_num, HG1, BX⟩
        case measure => have := HLT.out; simp [intOf]; omega
    · have hje : j = N := by omega
      have hjI : ¬ (j : Int) < (N : Int) := by omega
      have hjB : decide ((j : Int) < (N : Int)) = false := decide_eq_false hjI
      have hjP : ((j : Int) < (N : Int)) = False := eq_false hjI
      rw [hje] at HG
      clear hje hlt
      go_wp2
      go_ret2
      rw [HG.out]
      exact ⟨_, rfl, fun i hi => (by cases hi), BX⟩
end Go.Proofs.Ytenjpldinnbcbaa
