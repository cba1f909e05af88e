/- The law BenchPower: just as many writes are done as the limit says. -/
import Derived.Test.YtggljcdkiaggeaaPow
namespace Go.Proofs.Ytggljcdkiaggeaa
open Go.RowKit
set_option linter.unusedVariables false
set_option linter.unusedSimpArgs false
set_option maxRecDepth 100000
set_option maxHeartbeats 2000000
theorem apart_bench {w w' : World} {base g b0 : Nat} {lv v : Value} {hs : List (Nat × Value)} {b : B.Bn} {l : List Nat} (h : IsBench w base g lv hs b) (ho : Own w' b0 v l) (hb : w.heap.size ≤ b0) : ∀ y, v.ownBlock = some y → ¬ ofB g lv hs y := fun y hy hof => by
  have h1 := h.lts y hof
  have h2 := ho.ge y hy
  omega
theorem bools_nil (w : World) : Bools w (.slice none 0 0) [] := ⟨none, 0, rfl, Nat.le_refl _, by decide, (fun _ => rfl), .inl rfl⟩
def xsP (i : Nat) : List Nat := secL (7 * (i : Int) + 1)
theorem xsP_ok (i : Nat) : (xsP i).length = 32 ∧ ∀ y ∈ xsP i, y < 256 := ⟨secL_len _, secL_byte _⟩
theorem bool_info : (Try.prog.info? 4).map (fun i => (i.zero, i.size, i.bytes)) = some (some (.bool false), 1, 1) := by kernel_rfl
theorem Bools.of_row {w : World} {base n : Nat} {v : Value} (h : w.ownsRow base 4 1 v n (List.replicate n (.bool true))) : Bools w v (List.replicate n true) := by
  rcases h.2 with ⟨rfl, hn⟩ | ⟨b, cap, cur, rfl, _, _, h1, h2, _⟩
  · subst hn
    exact ⟨none, 0, rfl, Nat.le_refl _, by decide, (fun _ => rfl), .inl rfl⟩
  · exact ⟨some ⟨b, 0, none⟩, cap, by simp, by simpa using h1, h2, (fun e => by cases e), by
      have := At.of_own h
      rw [List.map_replicate]
      exact this⟩
theorem flush_look (j m a : Nat) (hj : j < 2) (hm : m ≤ 104) (ha : a < 52) : D.look (D.flush (B.pw xsP j m)) a = if 2 * a + j < m then xsP (2 * a + j) else List.replicate 32 0 := by
  rw [D.look_flush (B.pw_ok xsP xsP_ok j m hm) ha, B.pw_look xsP hj m a ha]
/-- what is there behind the crash -/
structure PowR (b : B.Bn) (M : Nat) (all : Bool) : Prop where
  down : b.down = false
  left : b.left = -1
  wr : b.writes = (M : Nat)
  get : ∀ j, j < 2 → ∃ d, b.ds[j]? = some d ∧ d.f = false ∧ d.p = [] ∧ ∀ a, a < 52 → D.look d a = if all = true ∧ 2 * a + j < M then xsP (2 * a + j) else List.replicate 32 0
  len : b.ds.length = 2
theorem PowR.yes (L k : Nat) (hm : min k L ≤ 104) : PowR (B.crash (B.pb xsP L k) (List.replicate (min k L) true)) (min k L) true := by
  rw [B.pb_crash_all]
  refine ⟨rfl, rfl, rfl, fun j hj => ⟨D.flush (B.pw xsP j (min k L)), ?_, rfl, rfl, fun a ha => ?_⟩, rfl⟩
  · have : j = 0 ∨ j = 1 := by omega
    rcases this with rfl | rfl <;> rfl
  · rw [flush_look j _ a hj hm ha]
    simp
theorem PowR.no (L k : Nat) : PowR (B.crash (B.pb xsP L k) []) (min k L) false := by
  rw [B.pb_crash_none]
  refine ⟨rfl, rfl, rfl, fun j hj => ⟨D.blank, ?_, rfl, rfl, fun a ha => ?_⟩, rfl⟩
  · have : j = 0 ∨ j = 1 := by omega
    rcases this with rfl | rfl <;> rfl
  · rw [B.blank_look a ha, if_neg (by simp)]
theorem PowR.pend {b : B.Bn} {M : Nat} {all : Bool} (h : PowR b M all) : B.pending b = 0 := by
  unfold B.pending
  obtain ⟨d0, h0, _, p0, _⟩ := h.get 0 (by decide)
  obtain ⟨d1, h1, _, p1, _⟩ := h.get 1 (by decide)
  have : b.ds = [d0, d1] := by
    have hl := h.len
    match hb : b.ds, hl with
    | [x, y], _ =>
      rw [hb] at h0 h1
      simp at h0 h1
      rw [h0, h1]
  rw [this]
  simp [p0, p1]
theorem pw_len_le (L k : Nat) (hk : k ≤ 20) : ∀ dk ∈ (B.pb xsP L k).ds, dk.p.length ≤ 20 := by
  intro dk hdk
  have hl := B.pw_len xsP (min k L)
  have : min k L ≤ k := Nat.min_le_left _ _
  have h2 : dk = B.pw xsP 0 (min k L) ∨ dk = B.pw xsP 1 (min k L) := by
    have : dk ∈ [B.pw xsP 0 (min k L), B.pw xsP 1 (min k L)] := hdk
    simpa using this
  rcases h2 with rfl | rfl <;> omega
attribute [local irreducible] Go.Calls Byt Own Parts Bools
theorem benchPower_law (n : Int) (hn : -9223372036854775808 ≤ n ∧ n ≤ 9223372036854775807) (li : Int) (hli : -9223372036854775808 ≤ li ∧ li ≤ 9223372036854775807) (all : Bool) (W : World) :
    Calls Try.prog 11 #[.int .i64 n, .int .i64 li, .bool all] W fun e W' => e = .returned (.bool true) ∧ Below W.heap.size W W' := by
  obtain ⟨j0, hj, hy0, hy1, hy2⟩ := info_parts uint8_info
  obtain ⟨jb, hjb, hb0, hb1, hb2⟩ := info_parts bool_info
  go_enter Try.func11, Try.ntmps11
  go_wp2_with fail
  refine Calls.mono (bnew_any W 2 (by decide) (by decide)) ?_
  rintro e w1 ⟨rfl, ⟨lv, hs, H1⟩, b1⟩
  go_wp2_with fail
  refine Calls.mono (within_any n 20 _ (by decide) hn.1 hn.2) ?_
  rintro e w2 ⟨rfl, rfl⟩
  go_wp2_with fail
  refine Calls.mono (within_any li 20 _ (by decide) hli.1 hli.2) ?_
  rintro e w2 ⟨rfl, rfl⟩
  have hN0 := withinI_ge n 20
  have hN1 := withinI_lt n 20 (by decide)
  have hL0 := withinI_ge li 20
  have hL1 := withinI_lt li 20 (by decide)
  obtain ⟨N0, hN⟩ : ∃ N0, N0 = withinI n 20 := ⟨_, rfl⟩
  obtain ⟨L0, hL⟩ : ∃ L0, L0 = withinI li 20 := ⟨_, rfl⟩
  rw [← hN] at hN0 hN1 ⊢
  rw [← hL] at hL0 hL1 ⊢
  clear hN hL
  obtain ⟨N, rfl⟩ := Int.eq_ofNat_of_zero_le hN0
  obtain ⟨L, rfl⟩ := Int.eq_ofNat_of_zero_le hL0
  go_wp2_with fail
  refine Calls.mono (blimit_any _ _ _ _ _ _ (L : Int) H1 (by omega)) ?_
  rw [if_neg (by omega)]
  rintro e w2 ⟨rfl, H2, F2⟩
  have B2 := Fr.below b1 F2 b1.size (fun x hx => by rw [hx]; exact Nat.le_refl _)
  have e2 : ({ (B.fresh 2) with left := (L : Int) } : B.Bn) = B.pb xsP L 0 := by
    unfold B.pb B.fresh
    rw [Nat.zero_min, decide_eq_false (by omega)]
    congr 1
  rw [e2] at H2
  have HR0 : Hid (∃ hs', IsBench w2 W.heap.size W.heap.size lv hs' (B.pb xsP L 0) ∧ Below W.heap.size W w2) := ⟨hs, H2, B2⟩
  clear H1 H2 F2 b1 B2 e2
  go_wp2_with fail
  go_loopw [9] (fun i w' => ∃ k : Nat, k ≤ N ∧ i = .int .i64 k ∧ Hid (∃ hs', IsBench w' W.heap.size W.heap.size lv hs' (B.pb xsP L k) ∧ Below W.heap.size W w')) (fun i _ => N - (intOf i).toNat)
  case atStart => exact ⟨0, Nat.zero_le _, rfl, HR0⟩
  case round =>
    clear HR0
    obtain ⟨k, hk, rfl, HR⟩ := hrel
    obtain ⟨hs', H3, B3⟩ := HR.out
    by_cases hlt : k < N
    · have hmod : (k : Int).tmod 2 = ((k % 2 : Nat) : Int) := by rw [Int.tmod_eq_emod_of_nonneg (by omega)]; omega
      have hdiv : (k : Int).tdiv 2 = ((k / 2 : Nat) : Int) := by rw [Int.tdiv_eq_ediv_of_nonneg (by omega)]; omega
      have hst := B.pb_step xsP (fun i => (xsP_ok i).1) L k (by omega)
      push_cast at hst
      have HSZ : Hid (∀ dk ∈ (B.pb xsP L k).ds, (dk.p.length + 1) * 40 ≤ 140737488355328) := fun dk hdk => by
        have hl := pw_len_le L k (by omega) dk hdk
        omega
      have HWL : Hid ((-4611686018427387904 < (B.pb xsP L k).writes ∧ (B.pb xsP L k).writes < 4611686018427387904) ∧ -4611686018427387904 < (B.pb xsP L k).left ∧ (B.pb xsP L k).left ≤ 9223372036854775807) := by
        show (-4611686018427387904 < ((min k L : Nat) : Int) ∧ ((min k L : Nat) : Int) < 4611686018427387904) ∧ -4611686018427387904 < (L : Int) - ((min k L : Nat) : Int) ∧ (L : Int) - ((min k L : Nat) : Int) ≤ 9223372036854775807
        have : min k L ≤ k := Nat.min_le_left _ _
        omega
      by_cases hkL : k < L
      · rw [if_pos hkL] at hst
        have HST := Lib.hid hst
        clear hst
        go_wp2_with fail
        refine Calls.mono (sector_any _ wr (by omega)) ?_
        rw [show secL (7 * (k : Int) + 1) = xsP k from rfl]
        rintro e w4 ⟨v4, rfl, O4, b4⟩
        go_wp2_with fail
        refine Calls.mono (bwrite_any w4 _ _ _ _ _ _ _ v4 _ (H3.up b4) O4.byt (apart_bench H3 O4 (Nat.le_refl _)) (Nat.le_trans B3.size b4.size) HSZ.out HWL.out.1 HWL.out.2) ?_
        rw [HST.out.1, HST.out.2]
        rintro e w5 ⟨rfl, hs5, H5, F5, q5⟩
        have B5 := Fr.below (belT B3 b4) F5 (Nat.le_trans B3.size b4.size) (fun y hy => (H3.up b4).ges y hy)
        go_wp2_with fail
        go_roundw
        case rel => exact ⟨k + 1, by omega, by go_num, Lib.hid ⟨hs5, H5, B5⟩⟩
        case measure => simp [intOf]; omega
      · rw [if_neg hkL] at hst
        have HST := Lib.hid hst
        clear hst
        go_wp2_with fail
        refine Calls.mono (sector_any _ wr (by omega)) ?_
        rw [show secL (7 * (k : Int) + 1) = xsP k from rfl]
        rintro e w4 ⟨v4, rfl, O4, b4⟩
        go_wp2_with fail
        refine Calls.mono (bwrite_any w4 _ _ _ _ _ _ _ v4 _ (H3.up b4) O4.byt (apart_bench H3 O4 (Nat.le_refl _)) (Nat.le_trans B3.size b4.size) HSZ.out HWL.out.1 HWL.out.2) ?_
        rw [HST.out.1, HST.out.2]
        rintro e w5 ⟨rfl, hs5, H5, F5, q5⟩
        have B5 := Fr.below (belT B3 b4) F5 (Nat.le_trans B3.size b4.size) (fun y hy => (H3.up b4).ges y hy)
        go_wp2_with fail
        go_roundw
        case rel => exact ⟨k + 1, by omega, by go_num, Lib.hid ⟨hs5, H5, B5⟩⟩
        case measure => simp [intOf]; omega
    · have hke : k = N := by omega
      subst hke
      clear hlt HR
      have HMB : True := trivial
      rcases Nat.lt_trichotomy k L with hcmp | hcmp | hcmp
      · have HX : Hid (min k L = k) := Nat.min_eq_left (by omega)
        have HDW : Hid ((B.pb xsP L k).down = false) := decide_eq_false (by omega)
        have HPD : Hid (B.pending (B.pb xsP L k) = k) := by rw [B.pb_pending]; exact HX.out
        have HWR : Hid ((B.pb xsP L k).writes = ((k : Nat) : Int)) := by show ((min k L : Nat) : Int) = _; rw [HX.out]
        have hX20 : k ≤ 20 := by omega
        go_wp2_with fail
        refine Calls.mono (bdown_any _ _ _ _ _ _ H3) ?_
        rw [HDW.out]
        rintro e w4 ⟨rfl, rfl⟩
        go_wp2_with fail
        refine Calls.mono (bwrites_any _ _ _ _ _ _ H3) ?_
        rw [HWR.out]
        rintro e w4 ⟨rfl, rfl⟩
        go_wp2_with fail
        refine Calls.mono (bpending_any _ _ _ _ _ _ H3 (by rw [HPD.out]; omega)) ?_
        rw [HPD.out]
        rintro e w4 ⟨rfl, rfl⟩
        skip
        cases all with
        | true =>
          obtain ⟨Z0, hZ0⟩ : ∃ Z0, Z0 = wr.heap.size := ⟨_, rfl⟩
          have hof : ∀ y, ofB W.heap.size lv hs' y → y < Z0 := fun y hy => by rw [hZ0]; exact H3.lts y hy
          have HK0 : Hid ((IsBench wr W.heap.size W.heap.size lv hs' (B.pb xsP L k) ∧ Below W.heap.size W wr) ∧ Z0 ≤ wr.heap.size) := ⟨⟨H3, B3⟩, by omega⟩
          have HOF := Lib.hid hof
          have hWZ : W.heap.size ≤ Z0 := by rw [hZ0]; exact B3.size
          clear H3 B3 hof hZ0
          go_wp2_with fail
          go_loopw [12, 13] (fun kv i w' => ∃ t : Nat, t ≤ k ∧ i = .int .i64 t ∧ Hid (w'.ownsRow Z0 4 1 kv t (List.replicate t (.bool true))) ∧ Hid ((IsBench w' W.heap.size W.heap.size lv hs' (B.pb xsP L k) ∧ Below W.heap.size W w') ∧ Z0 ≤ w'.heap.size)) (fun _ i _ => k - (intOf i).toNat)
          case atStart => exact ⟨0, Nat.zero_le _, rfl, Lib.hid (World.ownsRow_nil _ _ _ _), HK0⟩
          case round =>
            clear HK0
            obtain ⟨t, ht, rfl, HK, HQ⟩ := hrel
            obtain ⟨aok, capk, rfl⟩ := row_shape HK.out
            by_cases hltk : t < k
            · have hZw := HQ.out.2
              go_wp2_with (at_builtin; refine wpList_append_at rfl _ _ 42 rfl Z0 4 jb _ 1 1 Try.underlying42 hjb hb0 hb1 hb2 rfl (by decide) _ t (List.replicate t (.bool true)) rfl (row_up HK.out (belA1 (belR _))) (some ⟨wr.heap.size, 0, none⟩) 1 1 [.bool true] rfl (fun e => by cases e) (Nat.le_refl _) rfl (At.one _ _ _ rfl) (fun u hu => by rw [List.mem_singleton.1 hu]; rfl) (by simp only [maxLen]; omega) (by omega) (by simp; omega) ?_; intro v' w7 hown hgrow _)
              go_roundw
              case rel =>
                have H4 := HQ.out.1.1.up (belA1 (belR _) (o1 := .cells #[.bool true] 4))
                have B4 := belA1 HQ.out.1.2 (o1 := .cells #[.bool true] 4)
                refine ⟨t + 1, by omega, by go_num, Lib.hid (by rw [List.replicate_succ']; exact hown), Lib.hid ⟨⟨H4.fr (Fr.grown hgrow) (fun y hy e9 => by have := (HK.out.lt y e9).1; have := HOF.out y hy; omega), Fr.below B4 (Fr.grown hgrow) B4.size (fun y hy => by have := (HK.out.lt y hy).1; omega)⟩, Nat.le_trans hZw (Nat.le_trans (by simp) hgrow.size)⟩⟩
              case measure => simp [intOf]; omega
            · have hte : t = k := by omega
              have HTE := Lib.hid hte
              obtain ⟨H7, B7⟩ := HQ.out.1
              obtain ⟨KS, hKS⟩ : ∃ KS : List Bool, KS = List.replicate t true := ⟨_, rfl⟩
              have KB : Bools wr (.slice aok t capk) KS := by rw [hKS]; exact Bools.of_row HK.out
              have KA : ∀ y, (Value.slice aok t capk).ownBlock = some y → ¬ ofB W.heap.size lv hs' y := fun y hy ho => by
                have h1 := (HK.out.lt y hy).1
                have h2 := HOF.out y ho
                omega
              have KP : PowR (B.crash (B.pb xsP L k) KS) (k) true := by rw [hKS, HTE.out]; have h9 := PowR.yes L k (by rw [HX.out]; omega); rw [HX.out] at h9; exact h9
              clear hKS hte HQ
              go_wp2_with fail
              refine Calls.mono (bcrash_any _ _ _ _ _ _ _ KS H7 KB (fun hne y hy ho => KA y hy ho)) ?_
              rintro e w8 ⟨rfl, hs8, H8, F8, q8⟩
              have B8 := Fr.below B7 F8 B7.size (fun y hy => H7.ges y hy)
              have HPR : Hid (PowR (B.crash (B.pb xsP L k) KS) (k) true) := KP
              obtain ⟨bb, hbb⟩ : ∃ bb, bb = B.crash (B.pb xsP L k) KS := ⟨_, rfl⟩
              rw [← hbb] at H8 HPR
              clear hbb H7 KB KA KP F8 q8
              have HS8 : Hid (IsBench w8 W.heap.size W.heap.size lv hs8 bb ∧ Below W.heap.size W w8) := ⟨H8, B8⟩
              clear H8 B8 B7
              go_wp2_with fail
              go_loopw [14] (fun i w' => ∃ t : Nat, t ≤ k ∧ i = .int .i64 t ∧ Hid (IsBench w' W.heap.size W.heap.size lv hs8 bb ∧ Below W.heap.size W w')) (fun i _ => k - (intOf i).toNat)
              case atStart => exact ⟨0, Nat.zero_le _, rfl, HS8⟩
              case round =>
                clear HS8
                obtain ⟨t, ht, rfl, HS⟩ := hrel
                obtain ⟨H9, B9⟩ := HS.out
                by_cases hlt9 : t < k
                · obtain ⟨d9, hd9, hf9, hp9, hlk9⟩ := HPR.out.get (t % 2) (by omega)
                  have hrd := B.read_ok (a := t / 2) HPR.out.down hd9 hf9 (by omega)
                  rw [hlk9 _ (by omega), show 2 * (t / 2) + t % 2 = t by omega] at hrd
                  clear hd9 hf9 hp9 hlk9
                  by_cases htx : t < k
                  · rw [if_pos ⟨rfl, htx⟩] at hrd
                    have HRD : Hid (B.readE bb ((t : Int) % 2) ((t : Int) / 2) = 0 ∧ B.readL bb ((t : Int) % 2) ((t : Int) / 2) = xsP t) := hrd
                    clear hrd
                    go_wp2_with (first
                      | (at_make; refine wpList_make_bytes rfl _ _ 29 rfl j0 Try.underlying29 hj hy0 hy1 hy2 _ _ _ _ 32 rfl rfl rfl rfl (by decide) ?_; intro w10 O10 b10)
                      | fail)
                    refine Calls.mono (sector_any _ w10 (by omega)) ?_
                    rw [show secL (7 * (t : Int) + 1) = xsP t from rfl]
                    rintro e w11 ⟨v11, rfl, OW, b11⟩
                    have c10 := belT b10 b11
                    go_wp2_with fail
                    refine Calls.mono (bread_any _ _ _ _ _ _ _ _ (H9.up c10)) ?_
                    rw [HRD.out.1, HRD.out.2]
                    rintro e w12 ⟨v12, rfl, O12, b12⟩
                    go_wp2_with fail
                    refine Calls.mono (same_any _ _ _ _ _ O12.byt (OW.up b12).byt) ?_
                    rw [decide_eq_true rfl]
                    rintro e w13 ⟨rfl, d13⟩
                    have c13 := belT (belT c10 b12) (d13.below _)
                    go_wp2_with fail
                    go_roundw
                    case rel => exact ⟨t + 1, by omega, by go_num, Lib.hid ⟨H9.up c13, belT B9 c13⟩⟩
                    case measure => simp [intOf]; omega
                  · exact absurd hlt9 htx
                · have HPN := Lib.hid HPR.out.pend
                  have HDN := Lib.hid HPR.out.down
                  obtain ⟨d0, hd0, hf0, hp0, _⟩ := HPR.out.get 0 (by decide)
                  have hwo := B.write_ok (a := 0) (x := List.replicate 32 0) HPR.out.down hd0 hf0 (by decide) (by simp) (by rw [HPR.out.left]; decide)
                  have HWO := Lib.hid hwo
                  have HSZ2 : Hid (∀ dk ∈ bb.ds, (dk.p.length + 1) * 40 ≤ 140737488355328) := fun dk hdk => by
                    obtain ⟨jj, hjl, hjj⟩ := List.getElem_of_mem hdk
                    have hl2 := HPR.out.len
                    obtain ⟨dj, hdj, _, hpj, _⟩ := HPR.out.get jj (by omega)
                    rw [List.getElem?_eq_getElem hjl, hjj] at hdj
                    cases hdj
                    rw [hpj]
                    decide
                  have HWL2 : Hid ((-4611686018427387904 < bb.writes ∧ bb.writes < 4611686018427387904) ∧ -4611686018427387904 < bb.left ∧ bb.left ≤ 9223372036854775807) := by
                    have h1 := HPR.out.wr
                    have h2 := HPR.out.left
                    rw [h1, h2]
                    show (_ ∧ _) ∧ _ ∧ _
                    omega
                  clear hd0 hf0 hp0 hwo
                  go_wp2_with fail
                  refine Calls.mono (bdown_any _ _ _ _ _ _ H9) ?_
                  rw [HDN.out]
                  rintro e w10 ⟨rfl, rfl⟩
                  go_wp2_with fail
                  refine Calls.mono (bpending_any _ _ _ _ _ _ H9 (by rw [HPN.out]; decide)) ?_
                  rw [HPN.out]
                  rintro e w10 ⟨rfl, rfl⟩
                  go_wp2_with (first
                    | (at_make; refine wpList_unguard (by rfl) ?_; refine wpList_make_bytes rfl _ _ 29 rfl j0 Try.underlying29 hj hy0 hy1 hy2 _ _ _ _ 32 rfl rfl rfl rfl (by decide) ?_; intro w10 O10 b10)
                    | fail)
                  refine Calls.mono (bwrite_any w10 _ _ _ _ _ 0 0 _ _ (H9.up b10) O10.byt (apart_bench H9 O10 (Nat.le_refl _)) (Nat.le_trans B9.size b10.size) HSZ2.out HWL2.out.1 HWL2.out.2) ?_
                  rw [show B.writeE bb 0 0 (List.replicate 32 0) = 0 from HWO.out.1]
                  rintro e w11 ⟨rfl, hs11, H11, F11, q11⟩
                  have B11 := Fr.below (belT B9 b10) F11 (Nat.le_trans B9.size b10.size) (fun y hy => (H9.up b10).ges y hy)
                  go_wp2_with fail
                  refine Calls.mono (bwakes_any _) ?_
                  rintro e w12 ⟨rfl, b12⟩
                  go_wp2
                  go_ret
                  exact ⟨rfl, belT B11 b12⟩
        | false =>
          have HK0 : Hid (IsBench wr W.heap.size W.heap.size lv hs' (B.pb xsP L k) ∧ Below W.heap.size W wr) := ⟨H3, B3⟩
          clear H3 B3
          go_wp2_with fail
          go_loopw [12, 13] (fun kv i w' => i = .int .i64 0 ∧ kv = .slice none 0 0 ∧ Hid (IsBench w' W.heap.size W.heap.size lv hs' (B.pb xsP L k) ∧ Below W.heap.size W w')) (fun _ i _ => 0)
          case atStart => exact ⟨rfl, rfl, HK0⟩
          case round =>
            clear HK0
            obtain ⟨rfl, rfl, HK⟩ := hrel
            obtain ⟨H3, B3⟩ := HK.out
            obtain ⟨KS, hKS⟩ : ∃ KS : List Bool, KS = [] := ⟨_, rfl⟩
            have H7 := H3
            have B7 := B3
            have KB : Bools wr (.slice none 0 0) KS := by rw [hKS]; exact bools_nil _
            have KA : ∀ y, (Value.slice none 0 0).ownBlock = some y → ¬ ofB W.heap.size lv hs' y := fun y hy => by cases hy
            have KP : PowR (B.crash (B.pb xsP L k) KS) (k) false := by have h9 := PowR.no L k; rw [HX.out] at h9; rw [hKS]; exact h9
            clear H3 B3 hKS HK
            by_cases hX0 : 0 < k
            all_goals
              go_wp2_with fail
              refine Calls.mono (bcrash_any _ _ _ _ _ _ _ KS H7 KB (fun hne y hy ho => KA y hy ho)) ?_
              rintro e w8 ⟨rfl, hs8, H8, F8, q8⟩
              have B8 := Fr.below B7 F8 B7.size (fun y hy => H7.ges y hy)
              have HPR : Hid (PowR (B.crash (B.pb xsP L k) KS) (k) false) := KP
              obtain ⟨bb, hbb⟩ : ∃ bb, bb = B.crash (B.pb xsP L k) KS := ⟨_, rfl⟩
              rw [← hbb] at H8 HPR
              clear hbb H7 KB KA KP F8 q8
              have HS8 : Hid (IsBench w8 W.heap.size W.heap.size lv hs8 bb ∧ Below W.heap.size W w8) := ⟨H8, B8⟩
              clear H8 B8 B7
              go_wp2_with fail
              go_loopw [14] (fun i w' => ∃ t : Nat, t ≤ k ∧ i = .int .i64 t ∧ Hid (IsBench w' W.heap.size W.heap.size lv hs8 bb ∧ Below W.heap.size W w')) (fun i _ => k - (intOf i).toNat)
              case atStart => exact ⟨0, Nat.zero_le _, rfl, HS8⟩
              case round =>
                clear HS8
                obtain ⟨t, ht, rfl, HS⟩ := hrel
                obtain ⟨H9, B9⟩ := HS.out
                by_cases hlt9 : t < k
                · obtain ⟨d9, hd9, hf9, hp9, hlk9⟩ := HPR.out.get (t % 2) (by omega)
                  have hrd := B.read_ok (a := t / 2) HPR.out.down hd9 hf9 (by omega)
                  rw [hlk9 _ (by omega), show 2 * (t / 2) + t % 2 = t by omega] at hrd
                  clear hd9 hf9 hp9 hlk9
                  · rw [if_neg (fun h => by cases h.1)] at hrd
                    have HRD : Hid (B.readE bb ((t : Int) % 2) ((t : Int) / 2) = 0 ∧ B.readL bb ((t : Int) % 2) ((t : Int) / 2) = List.replicate 32 0) := hrd
                    clear hrd
                    go_wp2_with (first
                      | (at_make; refine wpList_make_bytes rfl _ _ 29 rfl j0 Try.underlying29 hj hy0 hy1 hy2 _ _ _ _ 32 rfl rfl rfl rfl (by decide) ?_; intro w10 O10 b10)
                      | fail)
                    have c10 := b10
                    have OW := O10
                    refine Calls.mono (bread_any _ _ _ _ _ _ _ _ (H9.up c10)) ?_
                    rw [HRD.out.1, HRD.out.2]
                    rintro e w12 ⟨v12, rfl, O12, b12⟩
                    go_wp2_with fail
                    refine Calls.mono (same_any _ _ _ _ _ O12.byt (OW.up b12).byt) ?_
                    rw [decide_eq_true rfl]
                    rintro e w13 ⟨rfl, d13⟩
                    have c13 := belT (belT c10 b12) (d13.below _)
                    go_wp2_with fail
                    go_roundw
                    case rel => exact ⟨t + 1, by omega, by go_num, Lib.hid ⟨H9.up c13, belT B9 c13⟩⟩
                    case measure => simp [intOf]; omega
                · have HPN := Lib.hid HPR.out.pend
                  have HDN := Lib.hid HPR.out.down
                  obtain ⟨d0, hd0, hf0, hp0, _⟩ := HPR.out.get 0 (by decide)
                  have hwo := B.write_ok (a := 0) (x := List.replicate 32 0) HPR.out.down hd0 hf0 (by decide) (by simp) (by rw [HPR.out.left]; decide)
                  have HWO := Lib.hid hwo
                  have HSZ2 : Hid (∀ dk ∈ bb.ds, (dk.p.length + 1) * 40 ≤ 140737488355328) := fun dk hdk => by
                    obtain ⟨jj, hjl, hjj⟩ := List.getElem_of_mem hdk
                    have hl2 := HPR.out.len
                    obtain ⟨dj, hdj, _, hpj, _⟩ := HPR.out.get jj (by omega)
                    rw [List.getElem?_eq_getElem hjl, hjj] at hdj
                    cases hdj
                    rw [hpj]
                    decide
                  have HWL2 : Hid ((-4611686018427387904 < bb.writes ∧ bb.writes < 4611686018427387904) ∧ -4611686018427387904 < bb.left ∧ bb.left ≤ 9223372036854775807) := by
                    have h1 := HPR.out.wr
                    have h2 := HPR.out.left
                    rw [h1, h2]
                    show (_ ∧ _) ∧ _ ∧ _
                    omega
                  clear hd0 hf0 hp0 hwo
                  go_wp2_with fail
                  refine Calls.mono (bdown_any _ _ _ _ _ _ H9) ?_
                  rw [HDN.out]
                  rintro e w10 ⟨rfl, rfl⟩
                  go_wp2_with fail
                  refine Calls.mono (bpending_any _ _ _ _ _ _ H9 (by rw [HPN.out]; decide)) ?_
                  rw [HPN.out]
                  rintro e w10 ⟨rfl, rfl⟩
                  go_wp2_with (first
                    | (at_make; refine wpList_unguard (by rfl) ?_; refine wpList_make_bytes rfl _ _ 29 rfl j0 Try.underlying29 hj hy0 hy1 hy2 _ _ _ _ 32 rfl rfl rfl rfl (by decide) ?_; intro w10 O10 b10)
                    | fail)
                  refine Calls.mono (bwrite_any w10 _ _ _ _ _ 0 0 _ _ (H9.up b10) O10.byt (apart_bench H9 O10 (Nat.le_refl _)) (Nat.le_trans B9.size b10.size) HSZ2.out HWL2.out.1 HWL2.out.2) ?_
                  rw [show B.writeE bb 0 0 (List.replicate 32 0) = 0 from HWO.out.1]
                  rintro e w11 ⟨rfl, hs11, H11, F11, q11⟩
                  have B11 := Fr.below (belT B9 b10) F11 (Nat.le_trans B9.size b10.size) (fun y hy => (H9.up b10).ges y hy)
                  go_wp2_with fail
                  refine Calls.mono (bwakes_any _) ?_
                  rintro e w12 ⟨rfl, b12⟩
                  go_wp2
                  go_ret
                  exact ⟨rfl, belT B11 b12⟩
      · subst hcmp
        have HX : Hid (min k k = k) := Nat.min_self k
        have HDW : Hid ((B.pb xsP k k).down = false) := decide_eq_false (by omega)
        have HPD : Hid (B.pending (B.pb xsP k k) = k) := by rw [B.pb_pending]; exact HX.out
        have HWR : Hid ((B.pb xsP k k).writes = ((k : Nat) : Int)) := by show ((min k k : Nat) : Int) = _; rw [HX.out]
        have hX20 : k ≤ 20 := by omega
        go_wp2_with fail
        refine Calls.mono (bdown_any _ _ _ _ _ _ H3) ?_
        rw [HDW.out]
        rintro e w4 ⟨rfl, rfl⟩
        go_wp2_with fail
        refine Calls.mono (bwrites_any _ _ _ _ _ _ H3) ?_
        rw [HWR.out]
        rintro e w4 ⟨rfl, rfl⟩
        go_wp2_with fail
        refine Calls.mono (bpending_any _ _ _ _ _ _ H3 (by rw [HPD.out]; omega)) ?_
        rw [HPD.out]
        rintro e w4 ⟨rfl, rfl⟩
        skip
        cases all with
        | true =>
          obtain ⟨Z0, hZ0⟩ : ∃ Z0, Z0 = wr.heap.size := ⟨_, rfl⟩
          have hof : ∀ y, ofB W.heap.size lv hs' y → y < Z0 := fun y hy => by rw [hZ0]; exact H3.lts y hy
          have HK0 : Hid ((IsBench wr W.heap.size W.heap.size lv hs' (B.pb xsP k k) ∧ Below W.heap.size W wr) ∧ Z0 ≤ wr.heap.size) := ⟨⟨H3, B3⟩, by omega⟩
          have HOF := Lib.hid hof
          have hWZ : W.heap.size ≤ Z0 := by rw [hZ0]; exact B3.size
          clear H3 B3 hof hZ0
          go_wp2_with fail
          go_loopw [12, 13] (fun kv i w' => ∃ t : Nat, t ≤ k ∧ i = .int .i64 t ∧ Hid (w'.ownsRow Z0 4 1 kv t (List.replicate t (.bool true))) ∧ Hid ((IsBench w' W.heap.size W.heap.size lv hs' (B.pb xsP k k) ∧ Below W.heap.size W w') ∧ Z0 ≤ w'.heap.size)) (fun _ i _ => k - (intOf i).toNat)
          case atStart => exact ⟨0, Nat.zero_le _, rfl, Lib.hid (World.ownsRow_nil _ _ _ _), HK0⟩
          case round =>
            clear HK0
            obtain ⟨t, ht, rfl, HK, HQ⟩ := hrel
            obtain ⟨aok, capk, rfl⟩ := row_shape HK.out
            by_cases hltk : t < k
            · have hZw := HQ.out.2
              go_wp2_with (at_builtin; refine wpList_append_at rfl _ _ 42 rfl Z0 4 jb _ 1 1 Try.underlying42 hjb hb0 hb1 hb2 rfl (by decide) _ t (List.replicate t (.bool true)) rfl (row_up HK.out (belA1 (belR _))) (some ⟨wr.heap.size, 0, none⟩) 1 1 [.bool true] rfl (fun e => by cases e) (Nat.le_refl _) rfl (At.one _ _ _ rfl) (fun u hu => by rw [List.mem_singleton.1 hu]; rfl) (by simp only [maxLen]; omega) (by omega) (by simp; omega) ?_; intro v' w7 hown hgrow _)
              go_roundw
              case rel =>
                have H4 := HQ.out.1.1.up (belA1 (belR _) (o1 := .cells #[.bool true] 4))
                have B4 := belA1 HQ.out.1.2 (o1 := .cells #[.bool true] 4)
                refine ⟨t + 1, by omega, by go_num, Lib.hid (by rw [List.replicate_succ']; exact hown), Lib.hid ⟨⟨H4.fr (Fr.grown hgrow) (fun y hy e9 => by have := (HK.out.lt y e9).1; have := HOF.out y hy; omega), Fr.below B4 (Fr.grown hgrow) B4.size (fun y hy => by have := (HK.out.lt y hy).1; omega)⟩, Nat.le_trans hZw (Nat.le_trans (by simp) hgrow.size)⟩⟩
              case measure => simp [intOf]; omega
            · have hte : t = k := by omega
              have HTE := Lib.hid hte
              obtain ⟨H7, B7⟩ := HQ.out.1
              obtain ⟨KS, hKS⟩ : ∃ KS : List Bool, KS = List.replicate t true := ⟨_, rfl⟩
              have KB : Bools wr (.slice aok t capk) KS := by rw [hKS]; exact Bools.of_row HK.out
              have KA : ∀ y, (Value.slice aok t capk).ownBlock = some y → ¬ ofB W.heap.size lv hs' y := fun y hy ho => by
                have h1 := (HK.out.lt y hy).1
                have h2 := HOF.out y ho
                omega
              have KP : PowR (B.crash (B.pb xsP k k) KS) (k) true := by rw [hKS, HTE.out]; have h9 := PowR.yes k k (by rw [HX.out]; omega); rw [HX.out] at h9; exact h9
              clear hKS hte HQ
              go_wp2_with fail
              refine Calls.mono (bcrash_any _ _ _ _ _ _ _ KS H7 KB (fun hne y hy ho => KA y hy ho)) ?_
              rintro e w8 ⟨rfl, hs8, H8, F8, q8⟩
              have B8 := Fr.below B7 F8 B7.size (fun y hy => H7.ges y hy)
              have HPR : Hid (PowR (B.crash (B.pb xsP k k) KS) (k) true) := KP
              obtain ⟨bb, hbb⟩ : ∃ bb, bb = B.crash (B.pb xsP k k) KS := ⟨_, rfl⟩
              rw [← hbb] at H8 HPR
              clear hbb H7 KB KA KP F8 q8
              have HS8 : Hid (IsBench w8 W.heap.size W.heap.size lv hs8 bb ∧ Below W.heap.size W w8) := ⟨H8, B8⟩
              clear H8 B8 B7
              go_wp2_with fail
              go_loopw [14] (fun i w' => ∃ t : Nat, t ≤ k ∧ i = .int .i64 t ∧ Hid (IsBench w' W.heap.size W.heap.size lv hs8 bb ∧ Below W.heap.size W w')) (fun i _ => k - (intOf i).toNat)
              case atStart => exact ⟨0, Nat.zero_le _, rfl, HS8⟩
              case round =>
                clear HS8
                obtain ⟨t, ht, rfl, HS⟩ := hrel
                obtain ⟨H9, B9⟩ := HS.out
                by_cases hlt9 : t < k
                · obtain ⟨d9, hd9, hf9, hp9, hlk9⟩ := HPR.out.get (t % 2) (by omega)
                  have hrd := B.read_ok (a := t / 2) HPR.out.down hd9 hf9 (by omega)
                  rw [hlk9 _ (by omega), show 2 * (t / 2) + t % 2 = t by omega] at hrd
                  clear hd9 hf9 hp9 hlk9
                  by_cases htx : t < k
                  · rw [if_pos ⟨rfl, htx⟩] at hrd
                    have HRD : Hid (B.readE bb ((t : Int) % 2) ((t : Int) / 2) = 0 ∧ B.readL bb ((t : Int) % 2) ((t : Int) / 2) = xsP t) := hrd
                    clear hrd
                    go_wp2_with (first
                      | (at_make; refine wpList_make_bytes rfl _ _ 29 rfl j0 Try.underlying29 hj hy0 hy1 hy2 _ _ _ _ 32 rfl rfl rfl rfl (by decide) ?_; intro w10 O10 b10)
                      | fail)
                    refine Calls.mono (sector_any _ w10 (by omega)) ?_
                    rw [show secL (7 * (t : Int) + 1) = xsP t from rfl]
                    rintro e w11 ⟨v11, rfl, OW, b11⟩
                    have c10 := belT b10 b11
                    go_wp2_with fail
                    refine Calls.mono (bread_any _ _ _ _ _ _ _ _ (H9.up c10)) ?_
                    rw [HRD.out.1, HRD.out.2]
                    rintro e w12 ⟨v12, rfl, O12, b12⟩
                    go_wp2_with fail
                    refine Calls.mono (same_any _ _ _ _ _ O12.byt (OW.up b12).byt) ?_
                    rw [decide_eq_true rfl]
                    rintro e w13 ⟨rfl, d13⟩
                    have c13 := belT (belT c10 b12) (d13.below _)
                    go_wp2_with fail
                    go_roundw
                    case rel => exact ⟨t + 1, by omega, by go_num, Lib.hid ⟨H9.up c13, belT B9 c13⟩⟩
                    case measure => simp [intOf]; omega
                  · exact absurd hlt9 htx
                · have HPN := Lib.hid HPR.out.pend
                  have HDN := Lib.hid HPR.out.down
                  obtain ⟨d0, hd0, hf0, hp0, _⟩ := HPR.out.get 0 (by decide)
                  have hwo := B.write_ok (a := 0) (x := List.replicate 32 0) HPR.out.down hd0 hf0 (by decide) (by simp) (by rw [HPR.out.left]; decide)
                  have HWO := Lib.hid hwo
                  have HSZ2 : Hid (∀ dk ∈ bb.ds, (dk.p.length + 1) * 40 ≤ 140737488355328) := fun dk hdk => by
                    obtain ⟨jj, hjl, hjj⟩ := List.getElem_of_mem hdk
                    have hl2 := HPR.out.len
                    obtain ⟨dj, hdj, _, hpj, _⟩ := HPR.out.get jj (by omega)
                    rw [List.getElem?_eq_getElem hjl, hjj] at hdj
                    cases hdj
                    rw [hpj]
                    decide
                  have HWL2 : Hid ((-4611686018427387904 < bb.writes ∧ bb.writes < 4611686018427387904) ∧ -4611686018427387904 < bb.left ∧ bb.left ≤ 9223372036854775807) := by
                    have h1 := HPR.out.wr
                    have h2 := HPR.out.left
                    rw [h1, h2]
                    show (_ ∧ _) ∧ _ ∧ _
                    omega
                  clear hd0 hf0 hp0 hwo
                  go_wp2_with fail
                  refine Calls.mono (bdown_any _ _ _ _ _ _ H9) ?_
                  rw [HDN.out]
                  rintro e w10 ⟨rfl, rfl⟩
                  go_wp2_with fail
                  refine Calls.mono (bpending_any _ _ _ _ _ _ H9 (by rw [HPN.out]; decide)) ?_
                  rw [HPN.out]
                  rintro e w10 ⟨rfl, rfl⟩
                  go_wp2_with (first
                    | (at_make; refine wpList_unguard (by rfl) ?_; refine wpList_make_bytes rfl _ _ 29 rfl j0 Try.underlying29 hj hy0 hy1 hy2 _ _ _ _ 32 rfl rfl rfl rfl (by decide) ?_; intro w10 O10 b10)
                    | fail)
                  refine Calls.mono (bwrite_any w10 _ _ _ _ _ 0 0 _ _ (H9.up b10) O10.byt (apart_bench H9 O10 (Nat.le_refl _)) (Nat.le_trans B9.size b10.size) HSZ2.out HWL2.out.1 HWL2.out.2) ?_
                  rw [show B.writeE bb 0 0 (List.replicate 32 0) = 0 from HWO.out.1]
                  rintro e w11 ⟨rfl, hs11, H11, F11, q11⟩
                  have B11 := Fr.below (belT B9 b10) F11 (Nat.le_trans B9.size b10.size) (fun y hy => (H9.up b10).ges y hy)
                  go_wp2_with fail
                  refine Calls.mono (bwakes_any _) ?_
                  rintro e w12 ⟨rfl, b12⟩
                  go_wp2
                  go_ret
                  exact ⟨rfl, belT B11 b12⟩
        | false =>
          have HK0 : Hid (IsBench wr W.heap.size W.heap.size lv hs' (B.pb xsP k k) ∧ Below W.heap.size W wr) := ⟨H3, B3⟩
          clear H3 B3
          go_wp2_with fail
          go_loopw [12, 13] (fun kv i w' => i = .int .i64 0 ∧ kv = .slice none 0 0 ∧ Hid (IsBench w' W.heap.size W.heap.size lv hs' (B.pb xsP k k) ∧ Below W.heap.size W w')) (fun _ i _ => 0)
          case atStart => exact ⟨rfl, rfl, HK0⟩
          case round =>
            clear HK0
            obtain ⟨rfl, rfl, HK⟩ := hrel
            obtain ⟨H3, B3⟩ := HK.out
            obtain ⟨KS, hKS⟩ : ∃ KS : List Bool, KS = [] := ⟨_, rfl⟩
            have H7 := H3
            have B7 := B3
            have KB : Bools wr (.slice none 0 0) KS := by rw [hKS]; exact bools_nil _
            have KA : ∀ y, (Value.slice none 0 0).ownBlock = some y → ¬ ofB W.heap.size lv hs' y := fun y hy => by cases hy
            have KP : PowR (B.crash (B.pb xsP k k) KS) (k) false := by have h9 := PowR.no k k; rw [HX.out] at h9; rw [hKS]; exact h9
            clear H3 B3 hKS HK
            by_cases hX0 : 0 < k
            all_goals
              go_wp2_with fail
              refine Calls.mono (bcrash_any _ _ _ _ _ _ _ KS H7 KB (fun hne y hy ho => KA y hy ho)) ?_
              rintro e w8 ⟨rfl, hs8, H8, F8, q8⟩
              have B8 := Fr.below B7 F8 B7.size (fun y hy => H7.ges y hy)
              have HPR : Hid (PowR (B.crash (B.pb xsP k k) KS) (k) false) := KP
              obtain ⟨bb, hbb⟩ : ∃ bb, bb = B.crash (B.pb xsP k k) KS := ⟨_, rfl⟩
              rw [← hbb] at H8 HPR
              clear hbb H7 KB KA KP F8 q8
              have HS8 : Hid (IsBench w8 W.heap.size W.heap.size lv hs8 bb ∧ Below W.heap.size W w8) := ⟨H8, B8⟩
              clear H8 B8 B7
              go_wp2_with fail
              go_loopw [14] (fun i w' => ∃ t : Nat, t ≤ k ∧ i = .int .i64 t ∧ Hid (IsBench w' W.heap.size W.heap.size lv hs8 bb ∧ Below W.heap.size W w')) (fun i _ => k - (intOf i).toNat)
              case atStart => exact ⟨0, Nat.zero_le _, rfl, HS8⟩
              case round =>
                clear HS8
                obtain ⟨t, ht, rfl, HS⟩ := hrel
                obtain ⟨H9, B9⟩ := HS.out
                by_cases hlt9 : t < k
                · obtain ⟨d9, hd9, hf9, hp9, hlk9⟩ := HPR.out.get (t % 2) (by omega)
                  have hrd := B.read_ok (a := t / 2) HPR.out.down hd9 hf9 (by omega)
                  rw [hlk9 _ (by omega), show 2 * (t / 2) + t % 2 = t by omega] at hrd
                  clear hd9 hf9 hp9 hlk9
                  · rw [if_neg (fun h => by cases h.1)] at hrd
                    have HRD : Hid (B.readE bb ((t : Int) % 2) ((t : Int) / 2) = 0 ∧ B.readL bb ((t : Int) % 2) ((t : Int) / 2) = List.replicate 32 0) := hrd
                    clear hrd
                    go_wp2_with (first
                      | (at_make; refine wpList_make_bytes rfl _ _ 29 rfl j0 Try.underlying29 hj hy0 hy1 hy2 _ _ _ _ 32 rfl rfl rfl rfl (by decide) ?_; intro w10 O10 b10)
                      | fail)
                    have c10 := b10
                    have OW := O10
                    refine Calls.mono (bread_any _ _ _ _ _ _ _ _ (H9.up c10)) ?_
                    rw [HRD.out.1, HRD.out.2]
                    rintro e w12 ⟨v12, rfl, O12, b12⟩
                    go_wp2_with fail
                    refine Calls.mono (same_any _ _ _ _ _ O12.byt (OW.up b12).byt) ?_
                    rw [decide_eq_true rfl]
                    rintro e w13 ⟨rfl, d13⟩
                    have c13 := belT (belT c10 b12) (d13.below _)
                    go_wp2_with fail
                    go_roundw
                    case rel => exact ⟨t + 1, by omega, by go_num, Lib.hid ⟨H9.up c13, belT B9 c13⟩⟩
                    case measure => simp [intOf]; omega
                · have HPN := Lib.hid HPR.out.pend
                  have HDN := Lib.hid HPR.out.down
                  obtain ⟨d0, hd0, hf0, hp0, _⟩ := HPR.out.get 0 (by decide)
                  have hwo := B.write_ok (a := 0) (x := List.replicate 32 0) HPR.out.down hd0 hf0 (by decide) (by simp) (by rw [HPR.out.left]; decide)
                  have HWO := Lib.hid hwo
                  have HSZ2 : Hid (∀ dk ∈ bb.ds, (dk.p.length + 1) * 40 ≤ 140737488355328) := fun dk hdk => by
                    obtain ⟨jj, hjl, hjj⟩ := List.getElem_of_mem hdk
                    have hl2 := HPR.out.len
                    obtain ⟨dj, hdj, _, hpj, _⟩ := HPR.out.get jj (by omega)
                    rw [List.getElem?_eq_getElem hjl, hjj] at hdj
                    cases hdj
                    rw [hpj]
                    decide
                  have HWL2 : Hid ((-4611686018427387904 < bb.writes ∧ bb.writes < 4611686018427387904) ∧ -4611686018427387904 < bb.left ∧ bb.left ≤ 9223372036854775807) := by
                    have h1 := HPR.out.wr
                    have h2 := HPR.out.left
                    rw [h1, h2]
                    show (_ ∧ _) ∧ _ ∧ _
                    omega
                  clear hd0 hf0 hp0 hwo
                  go_wp2_with fail
                  refine Calls.mono (bdown_any _ _ _ _ _ _ H9) ?_
                  rw [HDN.out]
                  rintro e w10 ⟨rfl, rfl⟩
                  go_wp2_with fail
                  refine Calls.mono (bpending_any _ _ _ _ _ _ H9 (by rw [HPN.out]; decide)) ?_
                  rw [HPN.out]
                  rintro e w10 ⟨rfl, rfl⟩
                  go_wp2_with (first
                    | (at_make; refine wpList_unguard (by rfl) ?_; refine wpList_make_bytes rfl _ _ 29 rfl j0 Try.underlying29 hj hy0 hy1 hy2 _ _ _ _ 32 rfl rfl rfl rfl (by decide) ?_; intro w10 O10 b10)
                    | fail)
                  refine Calls.mono (bwrite_any w10 _ _ _ _ _ 0 0 _ _ (H9.up b10) O10.byt (apart_bench H9 O10 (Nat.le_refl _)) (Nat.le_trans B9.size b10.size) HSZ2.out HWL2.out.1 HWL2.out.2) ?_
                  rw [show B.writeE bb 0 0 (List.replicate 32 0) = 0 from HWO.out.1]
                  rintro e w11 ⟨rfl, hs11, H11, F11, q11⟩
                  have B11 := Fr.below (belT B9 b10) F11 (Nat.le_trans B9.size b10.size) (fun y hy => (H9.up b10).ges y hy)
                  go_wp2_with fail
                  refine Calls.mono (bwakes_any _) ?_
                  rintro e w12 ⟨rfl, b12⟩
                  go_wp2
                  go_ret
                  exact ⟨rfl, belT B11 b12⟩
      · have HX : Hid (min k L = L) := Nat.min_eq_right (by omega)
        have HDW : Hid ((B.pb xsP L k).down = true) := decide_eq_true hcmp
        have HPD : Hid (B.pending (B.pb xsP L k) = L) := by rw [B.pb_pending]; exact HX.out
        have HWR : Hid ((B.pb xsP L k).writes = ((L : Nat) : Int)) := by show ((min k L : Nat) : Int) = _; rw [HX.out]
        have hX20 : L ≤ 20 := by omega
        go_wp2_with fail
        refine Calls.mono (bdown_any _ _ _ _ _ _ H3) ?_
        rw [HDW.out]
        rintro e w4 ⟨rfl, rfl⟩
        go_wp2_with fail
        refine Calls.mono (bwrites_any _ _ _ _ _ _ H3) ?_
        rw [HWR.out]
        rintro e w4 ⟨rfl, rfl⟩
        go_wp2_with fail
        refine Calls.mono (bpending_any _ _ _ _ _ _ H3 (by rw [HPD.out]; omega)) ?_
        rw [HPD.out]
        rintro e w4 ⟨rfl, rfl⟩
        go_wp2_with fail
        refine Calls.mono (bflush_down _ _ _ _ _ _ 0 H3 (by rw [show B.may (B.pb xsP L k) 0 = 6 from B.may_down (i := 0) HDW.out (by show 0 < 2; decide)]; decide)) ?_
        rw [show B.may (B.pb xsP L k) 0 = 6 from B.may_down (i := 0) HDW.out (by show 0 < 2; decide)]
        rintro e w4 ⟨rfl, rfl⟩
        cases all with
        | true =>
          obtain ⟨Z0, hZ0⟩ : ∃ Z0, Z0 = wr.heap.size := ⟨_, rfl⟩
          have hof : ∀ y, ofB W.heap.size lv hs' y → y < Z0 := fun y hy => by rw [hZ0]; exact H3.lts y hy
          have HK0 : Hid ((IsBench wr W.heap.size W.heap.size lv hs' (B.pb xsP L k) ∧ Below W.heap.size W wr) ∧ Z0 ≤ wr.heap.size) := ⟨⟨H3, B3⟩, by omega⟩
          have HOF := Lib.hid hof
          have hWZ : W.heap.size ≤ Z0 := by rw [hZ0]; exact B3.size
          clear H3 B3 hof hZ0
          go_wp2_with fail
          go_loopw [12, 13] (fun kv i w' => ∃ t : Nat, t ≤ L ∧ i = .int .i64 t ∧ Hid (w'.ownsRow Z0 4 1 kv t (List.replicate t (.bool true))) ∧ Hid ((IsBench w' W.heap.size W.heap.size lv hs' (B.pb xsP L k) ∧ Below W.heap.size W w') ∧ Z0 ≤ w'.heap.size)) (fun _ i _ => L - (intOf i).toNat)
          case atStart => exact ⟨0, Nat.zero_le _, rfl, Lib.hid (World.ownsRow_nil _ _ _ _), HK0⟩
          case round =>
            clear HK0
            obtain ⟨t, ht, rfl, HK, HQ⟩ := hrel
            obtain ⟨aok, capk, rfl⟩ := row_shape HK.out
            by_cases hltk : t < L
            · have hZw := HQ.out.2
              go_wp2_with (at_builtin; refine wpList_append_at rfl _ _ 42 rfl Z0 4 jb _ 1 1 Try.underlying42 hjb hb0 hb1 hb2 rfl (by decide) _ t (List.replicate t (.bool true)) rfl (row_up HK.out (belA1 (belR _))) (some ⟨wr.heap.size, 0, none⟩) 1 1 [.bool true] rfl (fun e => by cases e) (Nat.le_refl _) rfl (At.one _ _ _ rfl) (fun u hu => by rw [List.mem_singleton.1 hu]; rfl) (by simp only [maxLen]; omega) (by omega) (by simp; omega) ?_; intro v' w7 hown hgrow _)
              go_roundw
              case rel =>
                have H4 := HQ.out.1.1.up (belA1 (belR _) (o1 := .cells #[.bool true] 4))
                have B4 := belA1 HQ.out.1.2 (o1 := .cells #[.bool true] 4)
                refine ⟨t + 1, by omega, by go_num, Lib.hid (by rw [List.replicate_succ']; exact hown), Lib.hid ⟨⟨H4.fr (Fr.grown hgrow) (fun y hy e9 => by have := (HK.out.lt y e9).1; have := HOF.out y hy; omega), Fr.below B4 (Fr.grown hgrow) B4.size (fun y hy => by have := (HK.out.lt y hy).1; omega)⟩, Nat.le_trans hZw (Nat.le_trans (by simp) hgrow.size)⟩⟩
              case measure => simp [intOf]; omega
            · have hte : t = L := by omega
              have HTE := Lib.hid hte
              obtain ⟨H7, B7⟩ := HQ.out.1
              obtain ⟨KS, hKS⟩ : ∃ KS : List Bool, KS = List.replicate t true := ⟨_, rfl⟩
              have KB : Bools wr (.slice aok t capk) KS := by rw [hKS]; exact Bools.of_row HK.out
              have KA : ∀ y, (Value.slice aok t capk).ownBlock = some y → ¬ ofB W.heap.size lv hs' y := fun y hy ho => by
                have h1 := (HK.out.lt y hy).1
                have h2 := HOF.out y ho
                omega
              have KP : PowR (B.crash (B.pb xsP L k) KS) (L) true := by rw [hKS, HTE.out]; have h9 := PowR.yes L k (by rw [HX.out]; omega); rw [HX.out] at h9; exact h9
              clear hKS hte HQ
              go_wp2_with fail
              refine Calls.mono (bcrash_any _ _ _ _ _ _ _ KS H7 KB (fun hne y hy ho => KA y hy ho)) ?_
              rintro e w8 ⟨rfl, hs8, H8, F8, q8⟩
              have B8 := Fr.below B7 F8 B7.size (fun y hy => H7.ges y hy)
              have HPR : Hid (PowR (B.crash (B.pb xsP L k) KS) (L) true) := KP
              obtain ⟨bb, hbb⟩ : ∃ bb, bb = B.crash (B.pb xsP L k) KS := ⟨_, rfl⟩
              rw [← hbb] at H8 HPR
              clear hbb H7 KB KA KP F8 q8
              have HS8 : Hid (IsBench w8 W.heap.size W.heap.size lv hs8 bb ∧ Below W.heap.size W w8) := ⟨H8, B8⟩
              clear H8 B8 B7
              go_wp2_with fail
              go_loopw [14] (fun i w' => ∃ t : Nat, t ≤ k ∧ i = .int .i64 t ∧ Hid (IsBench w' W.heap.size W.heap.size lv hs8 bb ∧ Below W.heap.size W w')) (fun i _ => k - (intOf i).toNat)
              case atStart => exact ⟨0, Nat.zero_le _, rfl, HS8⟩
              case round =>
                clear HS8
                obtain ⟨t, ht, rfl, HS⟩ := hrel
                obtain ⟨H9, B9⟩ := HS.out
                by_cases hlt9 : t < k
                · obtain ⟨d9, hd9, hf9, hp9, hlk9⟩ := HPR.out.get (t % 2) (by omega)
                  have hrd := B.read_ok (a := t / 2) HPR.out.down hd9 hf9 (by omega)
                  rw [hlk9 _ (by omega), show 2 * (t / 2) + t % 2 = t by omega] at hrd
                  clear hd9 hf9 hp9 hlk9
                  by_cases htx : t < L
                  · rw [if_pos ⟨rfl, htx⟩] at hrd
                    have HRD : Hid (B.readE bb ((t : Int) % 2) ((t : Int) / 2) = 0 ∧ B.readL bb ((t : Int) % 2) ((t : Int) / 2) = xsP t) := hrd
                    clear hrd
                    go_wp2_with (first
                      | (at_make; refine wpList_make_bytes rfl _ _ 29 rfl j0 Try.underlying29 hj hy0 hy1 hy2 _ _ _ _ 32 rfl rfl rfl rfl (by decide) ?_; intro w10 O10 b10)
                      | fail)
                    refine Calls.mono (sector_any _ w10 (by omega)) ?_
                    rw [show secL (7 * (t : Int) + 1) = xsP t from rfl]
                    rintro e w11 ⟨v11, rfl, OW, b11⟩
                    have c10 := belT b10 b11
                    go_wp2_with fail
                    refine Calls.mono (bread_any _ _ _ _ _ _ _ _ (H9.up c10)) ?_
                    rw [HRD.out.1, HRD.out.2]
                    rintro e w12 ⟨v12, rfl, O12, b12⟩
                    go_wp2_with fail
                    refine Calls.mono (same_any _ _ _ _ _ O12.byt (OW.up b12).byt) ?_
                    rw [decide_eq_true rfl]
                    rintro e w13 ⟨rfl, d13⟩
                    have c13 := belT (belT c10 b12) (d13.below _)
                    go_wp2_with fail
                    go_roundw
                    case rel => exact ⟨t + 1, by omega, by go_num, Lib.hid ⟨H9.up c13, belT B9 c13⟩⟩
                    case measure => simp [intOf]; omega
                  · rw [if_neg (fun h => htx h.2)] at hrd
                    have HRD : Hid (B.readE bb ((t : Int) % 2) ((t : Int) / 2) = 0 ∧ B.readL bb ((t : Int) % 2) ((t : Int) / 2) = List.replicate 32 0) := hrd
                    clear hrd
                    go_wp2_with (first
                      | (at_make; refine wpList_make_bytes rfl _ _ 29 rfl j0 Try.underlying29 hj hy0 hy1 hy2 _ _ _ _ 32 rfl rfl rfl rfl (by decide) ?_; intro w10 O10 b10)
                      | fail)
                    have c10 := b10
                    have OW := O10
                    refine Calls.mono (bread_any _ _ _ _ _ _ _ _ (H9.up c10)) ?_
                    rw [HRD.out.1, HRD.out.2]
                    rintro e w12 ⟨v12, rfl, O12, b12⟩
                    go_wp2_with fail
                    refine Calls.mono (same_any _ _ _ _ _ O12.byt (OW.up b12).byt) ?_
                    rw [decide_eq_true rfl]
                    rintro e w13 ⟨rfl, d13⟩
                    have c13 := belT (belT c10 b12) (d13.below _)
                    go_wp2_with fail
                    go_roundw
                    case rel => exact ⟨t + 1, by omega, by go_num, Lib.hid ⟨H9.up c13, belT B9 c13⟩⟩
                    case measure => simp [intOf]; omega
                · have HPN := Lib.hid HPR.out.pend
                  have HDN := Lib.hid HPR.out.down
                  obtain ⟨d0, hd0, hf0, hp0, _⟩ := HPR.out.get 0 (by decide)
                  have hwo := B.write_ok (a := 0) (x := List.replicate 32 0) HPR.out.down hd0 hf0 (by decide) (by simp) (by rw [HPR.out.left]; decide)
                  have HWO := Lib.hid hwo
                  have HSZ2 : Hid (∀ dk ∈ bb.ds, (dk.p.length + 1) * 40 ≤ 140737488355328) := fun dk hdk => by
                    obtain ⟨jj, hjl, hjj⟩ := List.getElem_of_mem hdk
                    have hl2 := HPR.out.len
                    obtain ⟨dj, hdj, _, hpj, _⟩ := HPR.out.get jj (by omega)
                    rw [List.getElem?_eq_getElem hjl, hjj] at hdj
                    cases hdj
                    rw [hpj]
                    decide
                  have HWL2 : Hid ((-4611686018427387904 < bb.writes ∧ bb.writes < 4611686018427387904) ∧ -4611686018427387904 < bb.left ∧ bb.left ≤ 9223372036854775807) := by
                    have h1 := HPR.out.wr
                    have h2 := HPR.out.left
                    rw [h1, h2]
                    show (_ ∧ _) ∧ _ ∧ _
                    omega
                  clear hd0 hf0 hp0 hwo
                  go_wp2_with fail
                  refine Calls.mono (bdown_any _ _ _ _ _ _ H9) ?_
                  rw [HDN.out]
                  rintro e w10 ⟨rfl, rfl⟩
                  go_wp2_with fail
                  refine Calls.mono (bpending_any _ _ _ _ _ _ H9 (by rw [HPN.out]; decide)) ?_
                  rw [HPN.out]
                  rintro e w10 ⟨rfl, rfl⟩
                  go_wp2_with (first
                    | (at_make; refine wpList_unguard (by rfl) ?_; refine wpList_make_bytes rfl _ _ 29 rfl j0 Try.underlying29 hj hy0 hy1 hy2 _ _ _ _ 32 rfl rfl rfl rfl (by decide) ?_; intro w10 O10 b10)
                    | fail)
                  refine Calls.mono (bwrite_any w10 _ _ _ _ _ 0 0 _ _ (H9.up b10) O10.byt (apart_bench H9 O10 (Nat.le_refl _)) (Nat.le_trans B9.size b10.size) HSZ2.out HWL2.out.1 HWL2.out.2) ?_
                  rw [show B.writeE bb 0 0 (List.replicate 32 0) = 0 from HWO.out.1]
                  rintro e w11 ⟨rfl, hs11, H11, F11, q11⟩
                  have B11 := Fr.below (belT B9 b10) F11 (Nat.le_trans B9.size b10.size) (fun y hy => (H9.up b10).ges y hy)
                  go_wp2_with fail
                  refine Calls.mono (bwakes_any _) ?_
                  rintro e w12 ⟨rfl, b12⟩
                  go_wp2
                  go_ret
                  exact ⟨rfl, belT B11 b12⟩
        | false =>
          have HK0 : Hid (IsBench wr W.heap.size W.heap.size lv hs' (B.pb xsP L k) ∧ Below W.heap.size W wr) := ⟨H3, B3⟩
          clear H3 B3
          go_wp2_with fail
          go_loopw [12, 13] (fun kv i w' => i = .int .i64 0 ∧ kv = .slice none 0 0 ∧ Hid (IsBench w' W.heap.size W.heap.size lv hs' (B.pb xsP L k) ∧ Below W.heap.size W w')) (fun _ i _ => 0)
          case atStart => exact ⟨rfl, rfl, HK0⟩
          case round =>
            clear HK0
            obtain ⟨rfl, rfl, HK⟩ := hrel
            obtain ⟨H3, B3⟩ := HK.out
            obtain ⟨KS, hKS⟩ : ∃ KS : List Bool, KS = [] := ⟨_, rfl⟩
            have H7 := H3
            have B7 := B3
            have KB : Bools wr (.slice none 0 0) KS := by rw [hKS]; exact bools_nil _
            have KA : ∀ y, (Value.slice none 0 0).ownBlock = some y → ¬ ofB W.heap.size lv hs' y := fun y hy => by cases hy
            have KP : PowR (B.crash (B.pb xsP L k) KS) (L) false := by have h9 := PowR.no L k; rw [HX.out] at h9; rw [hKS]; exact h9
            clear H3 B3 hKS HK
            by_cases hX0 : 0 < L
            all_goals
              go_wp2_with fail
              refine Calls.mono (bcrash_any _ _ _ _ _ _ _ KS H7 KB (fun hne y hy ho => KA y hy ho)) ?_
              rintro e w8 ⟨rfl, hs8, H8, F8, q8⟩
              have B8 := Fr.below B7 F8 B7.size (fun y hy => H7.ges y hy)
              have HPR : Hid (PowR (B.crash (B.pb xsP L k) KS) (L) false) := KP
              obtain ⟨bb, hbb⟩ : ∃ bb, bb = B.crash (B.pb xsP L k) KS := ⟨_, rfl⟩
              rw [← hbb] at H8 HPR
              clear hbb H7 KB KA KP F8 q8
              have HS8 : Hid (IsBench w8 W.heap.size W.heap.size lv hs8 bb ∧ Below W.heap.size W w8) := ⟨H8, B8⟩
              clear H8 B8 B7
              go_wp2_with fail
              go_loopw [14] (fun i w' => ∃ t : Nat, t ≤ k ∧ i = .int .i64 t ∧ Hid (IsBench w' W.heap.size W.heap.size lv hs8 bb ∧ Below W.heap.size W w')) (fun i _ => k - (intOf i).toNat)
              case atStart => exact ⟨0, Nat.zero_le _, rfl, HS8⟩
              case round =>
                clear HS8
                obtain ⟨t, ht, rfl, HS⟩ := hrel
                obtain ⟨H9, B9⟩ := HS.out
                by_cases hlt9 : t < k
                · obtain ⟨d9, hd9, hf9, hp9, hlk9⟩ := HPR.out.get (t % 2) (by omega)
                  have hrd := B.read_ok (a := t / 2) HPR.out.down hd9 hf9 (by omega)
                  rw [hlk9 _ (by omega), show 2 * (t / 2) + t % 2 = t by omega] at hrd
                  clear hd9 hf9 hp9 hlk9
                  · rw [if_neg (fun h => by cases h.1)] at hrd
                    have HRD : Hid (B.readE bb ((t : Int) % 2) ((t : Int) / 2) = 0 ∧ B.readL bb ((t : Int) % 2) ((t : Int) / 2) = List.replicate 32 0) := hrd
                    clear hrd
                    go_wp2_with (first
                      | (at_make; refine wpList_make_bytes rfl _ _ 29 rfl j0 Try.underlying29 hj hy0 hy1 hy2 _ _ _ _ 32 rfl rfl rfl rfl (by decide) ?_; intro w10 O10 b10)
                      | fail)
                    have c10 := b10
                    have OW := O10
                    refine Calls.mono (bread_any _ _ _ _ _ _ _ _ (H9.up c10)) ?_
                    rw [HRD.out.1, HRD.out.2]
                    rintro e w12 ⟨v12, rfl, O12, b12⟩
                    go_wp2_with fail
                    refine Calls.mono (same_any _ _ _ _ _ O12.byt (OW.up b12).byt) ?_
                    rw [decide_eq_true rfl]
                    rintro e w13 ⟨rfl, d13⟩
                    have c13 := belT (belT c10 b12) (d13.below _)
                    go_wp2_with fail
                    go_roundw
                    case rel => exact ⟨t + 1, by omega, by go_num, Lib.hid ⟨H9.up c13, belT B9 c13⟩⟩
                    case measure => simp [intOf]; omega
                · have HPN := Lib.hid HPR.out.pend
                  have HDN := Lib.hid HPR.out.down
                  obtain ⟨d0, hd0, hf0, hp0, _⟩ := HPR.out.get 0 (by decide)
                  have hwo := B.write_ok (a := 0) (x := List.replicate 32 0) HPR.out.down hd0 hf0 (by decide) (by simp) (by rw [HPR.out.left]; decide)
                  have HWO := Lib.hid hwo
                  have HSZ2 : Hid (∀ dk ∈ bb.ds, (dk.p.length + 1) * 40 ≤ 140737488355328) := fun dk hdk => by
                    obtain ⟨jj, hjl, hjj⟩ := List.getElem_of_mem hdk
                    have hl2 := HPR.out.len
                    obtain ⟨dj, hdj, _, hpj, _⟩ := HPR.out.get jj (by omega)
                    rw [List.getElem?_eq_getElem hjl, hjj] at hdj
                    cases hdj
                    rw [hpj]
                    decide
                  have HWL2 : Hid ((-4611686018427387904 < bb.writes ∧ bb.writes < 4611686018427387904) ∧ -4611686018427387904 < bb.left ∧ bb.left ≤ 9223372036854775807) := by
                    have h1 := HPR.out.wr
                    have h2 := HPR.out.left
                    rw [h1, h2]
                    show (_ ∧ _) ∧ _ ∧ _
                    omega
                  clear hd0 hf0 hp0 hwo
                  go_wp2_with fail
                  refine Calls.mono (bdown_any _ _ _ _ _ _ H9) ?_
                  rw [HDN.out]
                  rintro e w10 ⟨rfl, rfl⟩
                  go_wp2_with fail
                  refine Calls.mono (bpending_any _ _ _ _ _ _ H9 (by rw [HPN.out]; decide)) ?_
                  rw [HPN.out]
                  rintro e w10 ⟨rfl, rfl⟩
                  go_wp2_with (first
                    | (at_make; refine wpList_unguard (by rfl) ?_; refine wpList_make_bytes rfl _ _ 29 rfl j0 Try.underlying29 hj hy0 hy1 hy2 _ _ _ _ 32 rfl rfl rfl rfl (by decide) ?_; intro w10 O10 b10)
                    | fail)
                  refine Calls.mono (bwrite_any w10 _ _ _ _ _ 0 0 _ _ (H9.up b10) O10.byt (apart_bench H9 O10 (Nat.le_refl _)) (Nat.le_trans B9.size b10.size) HSZ2.out HWL2.out.1 HWL2.out.2) ?_
                  rw [show B.writeE bb 0 0 (List.replicate 32 0) = 0 from HWO.out.1]
                  rintro e w11 ⟨rfl, hs11, H11, F11, q11⟩
                  have B11 := Fr.below (belT B9 b10) F11 (Nat.le_trans B9.size b10.size) (fun y hy => (H9.up b10).ges y hy)
                  go_wp2_with fail
                  refine Calls.mono (bwakes_any _) ?_
                  rintro e w12 ⟨rfl, b12⟩
                  go_wp2
                  go_ret
                  exact ⟨rfl, belT B11 b12⟩
end Go.Proofs.Ytggljcdkiaggeaa
