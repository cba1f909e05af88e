/- The walk of log.Put. -/
import Derived.Test.YtenjpldinnbcbaaLgF
import Derived.Test.YtenjpldinnbcbaaRecOk
import Derived.Test.YtenjpldinnbcbaaWk19
namespace Go.Proofs.Ytenjpldinnbcbaa
open Go.RowKit
set_option linter.unusedVariables false
set_option linter.unusedSimpArgs false
set_option maxRecDepth 100000
set_option maxHeartbeats 2000000
namespace B
def stL (all : List (List Nat)) (c : Bn) (d : Nat) : Bn := wL c d all all.length
theorem wL_p {c : Bn} (h : Pw c) {m : Nat} (hm : m < c.ds.length) {all : List (List Nat)} (h32 : ∀ x ∈ all, x.length = 32) (h8 : ∀ x ∈ all, ∀ y ∈ x, y < 256) {k : Nat} (hk : k ≤ all.length) (h52 : 2 + k ≤ 52) {P : Nat} (hp : ∀ d ∈ c.ds, d.p.length ≤ P) : ∀ d ∈ (wL c m all k).ds, d.p.length ≤ P + k := by
  obtain ⟨u, w1, w2, e2, e3⟩ := wL_spec h hm h32 h8 k hk h52
  intro d hd
  obtain ⟨i, hi, rfl⟩ := List.getElem_of_mem hd
  have hi2 : i < c.ds.length := by rw [← e2]; exact hi
  rw [← at1_eq hi, e3]
  have := hp _ (List.getElem_mem hi2)
  rw [← at1_eq hi2] at this
  split
  · rw [wD_p]; omega
  · omega
theorem pF_pw {all : List (List Nat)} (h32 : ∀ x ∈ all, x.length = 32) (h8 : ∀ x ∈ all, ∀ y ∈ x, y < 256) (h4 : all.length = 4) : ∀ {T : List Nat} {c : Bn} {P : Nat}, Pw c → (∀ d ∈ T, d < c.ds.length) → (∀ d ∈ c.ds, d.p.length ≤ P) →
    Pw (T.foldl (stL all) c) ∧ (T.foldl (stL all) c).ds.length = c.ds.length ∧ (∀ d ∈ (T.foldl (stL all) c).ds, d.p.length ≤ P + 4 * T.length) ∧ c.writes ≤ (T.foldl (stL all) c).writes ∧ (T.foldl (stL all) c).writes ≤ c.writes + ((4 * T.length : Nat) : Int) := by
  intro T
  induction T with
  | nil => intro c P h _ hp; exact ⟨h, rfl, fun d hd => by have := hp d hd; simpa using this, Int.le_refl _, by show c.writes ≤ c.writes + ((4 * 0 : Nat) : Int); omega⟩
  | cons d T ih =>
    intro c P h hT hp
    have hd := hT d (List.mem_cons_self ..)
    obtain ⟨u, w1, w2, e2, _⟩ := wL_spec h hd h32 h8 all.length (Nat.le_refl _) (by omega)
    have hp2 := wL_p h hd h32 h8 (Nat.le_refl _) (by omega) hp
    obtain ⟨a1, a2, a3, a4, a5⟩ := ih (c := stL all c d) (P := P + 4) u (fun e he => by show e < (wL c d all all.length).ds.length; rw [e2]; exact hT e (List.mem_cons_of_mem _ he)) (fun e he => by have := hp2 e he; omega)
    have hw1 : c.writes ≤ (stL all c d).writes := w1
    have hw2 : (stL all c d).writes ≤ c.writes + 4 := by show (wL c d all all.length).writes ≤ _; rw [h4] at w2 ⊢; omega
    refine ⟨a1, a2.trans e2, fun e he => by have := a3 e he; rw [List.length_cons]; omega, by show c.writes ≤ (T.foldl (stL all) (stL all c d)).writes; omega, ?_⟩
    show (T.foldl (stL all) (stL all c d)).writes ≤ _
    rw [List.length_cons]; omega
end B
attribute [local irreducible] Go.Calls Byt Own Parts PA BA Bools OwnD OwnT OwnZ Items
theorem lput_yes (w : World) (base g : Nat) (lv : Value) (hs : List (Nat × Value)) (b : B.Bn) (vv : Value) (lvs : List Bool) (s : Int) (v : Value) (l : List RI) (h : IsBench w base g lv hs b) (hU : B.Pw b) (hb0 : base ≤ w.heap.size) (hL : BA (ofB g lv hs) w vv lvs) (hI : Items w v l) (hk : rok s l = true)
    (hn : b.ds.length ≤ 8) (hp : ∀ d ∈ b.ds, d.p.length ≤ 1000000) (hw : 0 ≤ b.writes ∧ b.writes ≤ 1000000000) :
    Calls Try.prog 29 #[.pointer (some ⟨g, 0, none⟩), vv, .agg #[.int .i64 s, v]] w fun r w' => r = .returned (.int .i64 0) ∧ ∃ hs', IsBench w' base g lv hs' (B.putR b lvs (renc s l)) ∧ Fr (ofB g lv hs) w w' ∧ ∀ y, ofB g lv hs' y → ofB g lv hs y ∨ w.heap.size ≤ y := by
  obtain ⟨_, hn3, _⟩ := (rok_iff s l).1 hk
  have hfine := rok_fine hk
  obtain ⟨AL, hAL⟩ : ∃ AL, AL = renc s l := ⟨_, rfl⟩
  have h4 : AL.length = 4 := by rw [hAL]; exact renc_len hn3
  have h32 : ∀ x ∈ AL, x.length = 32 := by rw [hAL]; exact renc_32 hn3 hfine
  have h8 : ∀ x ∈ AL, ∀ y ∈ x, y < 256 := by rw [hAL]; exact renc_byte hI.bytes
  have HE := Lib.hid (fun (o : Obj) => rencode_ok s v l (w.alloc o) (hI.up (belA1 (belR _))) hk)
  rw [← hAL] at HE ⊢
  obtain ⟨ai, ci, rfl, _, _⟩ := hI.shape
  have HB := Lib.hid h
  have HU := Lib.hid hU
  have HV := Lib.hid hL
  have HLT := Lib.hid h.lts
  have H4 := Lib.hid h4
  have H32 := Lib.hid h32
  have H8 := Lib.hid h8
  have HPW := Lib.hid (And.intro hp hw)
  clear h hU hL hI hk hAL h4 h32 h8 hfine hn3 hp hw
  go_enter Try.func29, Try.ntmps29
  go_wp2_with fail
  refine Calls.mono (HE.out _) ?_
  rintro r w2 ⟨dv, rfl, D2, b2⟩
  obtain ⟨ad, cd, rfl, _, _⟩ := D2.shape
  rw [H4.out]
  rw [H4.out] at D2
  have B2 := belT (belA1 (belR w)) b2
  have PA2 := D2.pa (S := ofB g lv hs) (fun y hy => by have := HLT.out y hy; simp; omega)
  have PA2 := Lib.hid PA2
  have HDK := Lib.hid (disks_any w2 base g lv hs b vv lvs (HB.out.up B2) hn (HV.out.up B2).bools)
  obtain ⟨T, hT⟩ : ∃ T, T = onL lvs b.ds.length := ⟨_, rfl⟩
  rw [← hT] at HDK
  have HT := Lib.hid hT
  have HTL := Lib.hid (show (∀ d ∈ T, d < b.ds.length) ∧ T.length ≤ 8 from ⟨fun d hd => by rw [hT] at hd; exact (onL_lt hd).1, by rw [hT]; have := onL_len lvs b.ds.length; omega⟩)
  clear D2 b2 hT
  go_wp2_with fail
  refine Calls.mono HDK.out ?_
  rintro r w4 ⟨zv, rfl, Z4, b4⟩
  have B4 := belT B2 b4
  have Z4 := Lib.hid Z4
  have ZG := Lib.hid (show ∀ y, zv.ownBlock = some y → w.heap.size ≤ y ∧ y < w4.heap.size from fun y hy => ⟨by have := Z4.out.ge y hy; have := B2.size; omega, Z4.out.lts y hy⟩)
  obtain ⟨az, cz, rfl, _, _⟩ := Z4.out.shape
  obtain ⟨M, hM⟩ : ∃ M, M = T.length := ⟨_, rfl⟩
  rw [← hM]
  rw [← hM] at Z4 ZG
  have HM := Lib.hid hM
  have hM8 : M ≤ 8 := by rw [hM]; exact HTL.out.2
  have PA4 := Lib.hid (PA2.out.up b4)
  have BW4 : Hid (Below w.heap.size w w4) := Lib.hid B4
  have S0 : Hid (SX w4 base g lv hs w4 b) := ⟨hs, HB.out.up B4, Fr.refl _ _, fun y hy => .inl hy⟩
  have SPEC := Lib.hid (fun (j : Nat) => B.pF_pw H32.out H8.out H4.out (T := T.take j) HU.out (fun d hd => HTL.out.1 d (List.mem_of_mem_take hd)) HPW.out.1)
  clear hM b4 B2
  go_wp2
  go_loopw [28] (fun jv X => ∃ j : Nat, j ≤ M ∧ jv = .int .i64 j ∧ Hid (SX w4 base g lv hs X ((T.take j).foldl (B.stL AL) b))) (fun jv _ => M - (intOf jv).toNat)
  case atStart => exact ⟨0, Nat.zero_le _, rfl, S0⟩
  case round =>
    obtain ⟨j, hjM, rfl, HS⟩ := hrel
    by_cases hlt : j < M
    · have j1 : (j : Int) < (M : Int) := by omega
      have j0 : (0 : Int) ≤ (j : Int) := by omega
      have j2 : IntKind.i64.wrap ((j : Int) + 1) = ((j + 1 : Nat) : Int) := by rw [IntKind.wrap_i64]; omega
      have HLT1 := Lib.hid hlt
      obtain ⟨d, hd⟩ : ∃ d, T[j]? = some d := ⟨T[j]'(by rw [← HM.out]; exact hlt), List.getElem?_eq_getElem _⟩
      have hcd : ∃ gz, az = some ⟨gz, 0, none⟩ ∧ wr.cell? ⟨gz, j, none⟩ = some (.int .i64 (d : Int)) := by
        obtain ⟨hs1, I1, F1, q1⟩ := HS.out
        exact (Z4.out.fr F1 (fun y hy h => by have := ZG.out y hy; have := HLT.out y h; omega)).at hd
      obtain ⟨gz, haz, hcz⟩ := hcd
      have HAZ := Lib.hid haz
      subst haz
      obtain ⟨cj, hcj⟩ : ∃ cj, cj = (T.take j).foldl (B.stL AL) b := ⟨_, rfl⟩
      have hsp := SPEC.out j
      rw [← hcj] at HS hsp
      have HSP := Lib.hid hsp
      have HCJ := Lib.hid hcj
      have HTJ := Lib.hid (show (T.take j).length ≤ 8 by rw [List.length_take]; omega)
      have HDB := Lib.hid (show d < cj.ds.length by rw [hsp.2.1]; exact HTL.out.1 d (List.mem_of_getElem? hd))
      have HNXT : Hid ((T.take (j + 1)).foldl (B.stL AL) b = B.wL cj d AL 4) := by
        rw [List.take_add_one, hd, List.foldl_append, ← hcj]
        show B.wL cj d AL AL.length = _
        rw [H4.out]
      clear hlt hd hjM hsp hcj
      go_wp2
      go_loopw [34] (fun kv Y => ∃ k : Nat, k ≤ 4 ∧ kv = .int .i64 k ∧ Hid (SX w4 base g lv hs Y (B.wL cj d AL k))) (fun kv _ => 4 - (intOf kv).toNat)
      case atStart => exact ⟨0, Nat.zero_le _, rfl, HS⟩
      case round =>
        obtain ⟨k, hk4, rfl, HK⟩ := hrel
        by_cases hkl : k < 4
        · have k1 : (k : Int) < 4 := by omega
          have k0 : (0 : Int) ≤ (k : Int) := by omega
          have k2 : IntKind.i64.wrap ((k : Int) + 1) = ((k + 1 : Nat) : Int) := by rw [IntKind.wrap_i64]; omega
          have k3 : IntKind.i64.wrap (2 + (k : Int)) = ((2 + k : Nat) : Int) := by rw [IntKind.wrap_i64]; omega
          have HKL := Lib.hid hkl
          obtain ⟨hs6, I6, F6, q6⟩ := HK.out
          obtain ⟨bb, ob, cc, p, hbo, hcc, hp, hy, hap⟩ := (PA4.out.step F6 q6).get (k := k) (by rw [H4.out]; exact hkl)
          have hp32 : p.length = 32 := H32.out p (List.mem_of_getElem? hp.out)
          have HBO := Lib.hid hbo
          subst hbo
          obtain ⟨ac, kc, rfl, _, _⟩ := hy.shapeN hp32
          obtain ⟨m1, m2, m3, m4, m5⟩ := B.wL_spec HSP.out.1 HDB.out H32.out H8.out k (by rw [H4.out]; omega) (by omega)
          have m6 := B.wL_p HSP.out.1 HDB.out H32.out H8.out (k := k) (by rw [H4.out]; omega) (by omega) HSP.out.2.2.1
          have hgp : AL.getD k [] = p := by rw [List.getD, hp.out]; rfl
          have hwE := (m1.write1 (m := d) (a := 2 + k) (x := p) (by rw [m4]; exact HDB.out) (by omega) hp32).1
          have HW := bwrite_any _ base g lv hs6 _ (d : Int) ((2 + k : Nat) : Int) (.slice ac 32 kc) p I6 hy (hap (by intro e; rw [e] at hp32; cases hp32)) (by have := BW4.out.size; have := F6.size; omega)
            (fun dk hdk => by have := m6 dk hdk; have := HTJ.out; omega) (by have := HPW.out.2; have := HSP.out.2.2.2; have := HTJ.out; omega) (by rw [m1.left]; decide)
          rw [hwE] at HW
          obtain ⟨er, her⟩ : ∃ er : Int, er = if B.failB (B.wL cj d AL k) d then 5 else 0 := ⟨_, rfl⟩
          rw [← her] at HW
          have HW2 : Hid (Calls Try.prog 40 #[.pointer (some ⟨g, 0, none⟩), .int .i64 (d : Int), .int .i64 ((2 + k : Nat) : Int), .slice ac 32 kc] wr fun e w' => e = .returned (.int .i64 er) ∧ SX w4 base g lv hs w' (B.wL cj d AL (k + 1))) := by
            refine Calls.mono HW ?_
            rintro e w' ⟨rfl, hs7, I7, F7, q7⟩
            refine ⟨rfl, ?_⟩
            show SX _ _ _ _ _ _ (B.write _ _ _ (AL.getD k []))
            rw [hgp]
            exact SX.next F6 q6 I7 F7 q7
          have HBD := lgbad_any er
          have hnb : decide (er ≠ 0 ∧ er ≠ 5) = false := by rw [her]; split <;> decide
          rw [hnb] at HBD
          have HBD := Lib.hid HBD
          clear hkl hk4 I6 F6 q6 hp hy hap hp32 m1 m2 m3 m4 m5 m6 hgp hwE HW her hnb HK
          go_wp2_with fail
          refine Calls.mono HW2.out ?_
          rintro r w7 ⟨rfl, S7⟩
          have S7 := Lib.hid S7
          go_wp2_with fail
          refine Calls.mono (HBD.out _) ?_
          rintro r w8 ⟨rfl, rfl⟩
          go_wp2
          go_roundw
          case rel => exact ⟨k + 1, HKL.out, by go_num, S7⟩
          case measure => have := HKL.out; simp [intOf]; omega
        · have hke : k = 4 := by omega
          subst hke
          have HS2 : Hid (SX w4 base g lv hs wr ((T.take (j + 1)).foldl (B.stL AL) b)) := by rw [HNXT.out]; exact HK
          clear HK
          go_wp2
          go_roundw
          case rel => exact ⟨j + 1, HLT1.out, by go_num, HS2⟩
          case measure => have := HLT1.out; simp [intOf]; omega
    · have hje : j = M := by omega
      subst hje
      have hsp := SPEC.out j
      rw [HM.out, List.take_length] at hsp
      have hS := HS.out
      rw [HM.out, List.take_length] at hS
      obtain ⟨hs6, I6, F6, q6⟩ := hS
      have Z6 := Z4.out.fr F6 (fun y hy h => by have := ZG.out y hy; have := HLT.out y h; omega)
      have HFL := Lib.hid (flush_list wr base g lv hs6 _ _ T _ I6 hsp.1 Z6 (fun y hy h => by
        have := ZG.out y hy
        rcases q6 y h with h | h
        · have := HLT.out y h; omega
        · omega) (fun d hd => by rw [hsp.2.1]; exact HTL.out.1 d hd) (by have := HTL.out.2; omega))
      have HF6 := Lib.hid (And.intro F6 q6)
      clear I6 F6 q6 Z6 hsp HS
      go_wp2_with fail
      refine Calls.mono HFL.out ?_
      rintro r w9 ⟨rfl, hs9, I9, F9, q9⟩
      have HR : Hid (∃ hs', IsBench w9 base g lv hs' (B.putR b lvs AL) ∧ Fr (ofB g lv hs) w w9 ∧ ∀ y, ofB g lv hs' y → ofB g lv hs y ∨ w.heap.size ≤ y) := by
        have hs4 := BW4.out.size
        refine ⟨hs9, ?_, ((Fr.of_below (S := ofB g lv hs) BW4.out).trans HF6.out.1).transN F9 (fun y hy => ?_), fun y hy => ?_⟩
        · have e1 : T.foldl (B.stL AL) b = B.pL b lvs AL b.ds.length := by rw [HT.out]; exact B.pL_fold b lvs AL b.ds.length
          have e2 : T.foldl flS (B.pL b lvs AL b.ds.length) = B.putR b lvs AL := by rw [HT.out]; exact B.flW_fold _ lvs b.ds.length
          rw [← e2, ← e1]; exact I9
        · rcases HF6.out.2 y hy with h | h
          · exact .inl h
          · exact .inr (by omega)
        · rcases q9 y hy with h | h
          · rcases HF6.out.2 y h with h | h
            · exact .inl h
            · exact .inr (by omega)
          · exact .inr (by have := HF6.out.1.size; omega)
      clear I9 F9 q9
      go_wp2
      go_ret
      exact ⟨rfl, HR.out⟩
end Go.Proofs.Ytenjpldinnbcbaa
