/- The law BenchClones: a clone has the same, and what becomes of one does not become of the other one. -/
import Derived.Test.YtggljcdkiaggeaaTw
import Derived.Test.YtggljcdkiaggeaaBenchReplace
import Derived.Deep.RegionHeld3
import Derived.Deep.DrawnRows
namespace Go.Proofs.Ytggljcdkiaggeaa
open Go.RowKit
set_option linter.unusedVariables false
set_option linter.unusedSimpArgs false
set_option maxRecDepth 100000
set_option maxHeartbeats 2000000
attribute [local go_sem ↓] Go.wp_at_zero Go.wp_at_succ
def ClS (W : World) (lv : Value) (n : Nat) (w' : World) : Prop := ∃ hs' b, IsBench w' W.heap.size W.heap.size lv hs' b ∧ BI b n ∧ Below W.heap.size W w'
attribute [local irreducible] Go.Calls Byt Own Parts Ints Bools
theorem benchClones_law (W : World) (av : Value) (l : List Int) (ha : Ints W av l) (hal : l.length * 8 ≤ 140737488351232) (li : Int) (hli : -9223372036854775808 ≤ li ∧ li ≤ 9223372036854775807) (kv : Value) (ks : List Bool) (hks : Bools W kv ks) :
    Calls Try.prog 12 #[av, .int .i64 li, kv] W fun e W' => e = .returned (.bool true) ∧ Below W.heap.size W W' := by
  have HAS := Lib.hid ha
  have HKS := Lib.hid hks
  obtain ⟨aoa, capa, rfl, hr1, hr2⟩ := Ints.sh ha
  obtain ⟨aok, capk, rfl, hr3, hr4⟩ := Bools.shape hks
  clear ha hks
  go_enter Try.func12, Try.ntmps12
  go_wp2_with fail
  refine Calls.mono (bnew_any W 3 (by decide) (by decide)) ?_
  rintro e w1 ⟨rfl, ⟨lv, hs, H1⟩, b1⟩
  have hN0 := withinI_ge li 20
  have hN1 := withinI_lt li 20 (by decide)
  obtain ⟨A, hA⟩ : ∃ A, A = withinI li 20 := ⟨_, rfl⟩
  have hwi : ∀ W2 : World, Calls Try.prog 15 #[.int .i64 li, .int .i64 20] W2 fun e w' => e = .returned (.int .i64 A) ∧ W2 = w' := fun W2 => by rw [hA]; exact within_any li 20 W2 (by decide) hli.1 hli.2
  rw [← hA] at hN0 hN1
  have HWI := Lib.hid hwi
  have HLIM : Hid (∀ W2, Below w1.heap.size w1 W2 → Calls Try.prog 47 #[.pointer (some ⟨W.heap.size, 0, none⟩), .int .i64 (A - 1)] W2 fun e w' => e = .returned (.tuple #[]) ∧ IsBench w' W.heap.size W.heap.size lv hs { B.fresh 3 with left := A - 1 } ∧ Fr (fun x => x = W.heap.size) W2 w') := fun W2 hW2 => by
    have h9 := blimit_any W2 _ _ _ _ _ (A - 1) (H1.up hW2) (by omega)
    rw [if_neg (by omega)] at h9
    exact h9
  have hwrap : IntKind.i64.wrap (A - 1) = A - 1 := by rw [IntKind.wrap_i64]; omega
  clear hA hwi
  go_wp2_with fail
  have HH1 := Lib.hid H1
  have hBr : Below w1.heap.size w1 w1 := belR _
  go_region_held3 (fun _ => True) (trivial)
    ((first
      | (go_at_call 15; refine Calls.mono (HWI.out _) ?_; rintro e w2 ⟨rfl, rfl⟩)
      | (go_at_call 47; refine Calls.mono (HLIM.out _ (by iterate 6 try (first | assumption | apply belDr | apply belAlloc))) ?_; rintro e w2 ⟨rfl, H2, F2⟩)))
  all_goals
    have B2 : Below W.heap.size W w2 := Fr.below (show Below W.heap.size W w1.drew from belDr b1) F2 b1.size (fun x hx => by rw [hx]; exact Nat.le_refl _)
    have HR0 : Hid (ClS W lv 0 w2) := ⟨hs, _, H2, BI.start _ (by omega) (by omega), B2⟩
    clear H2 F2 B2 H1 b1 HH1 HLIM HWI hwrap hBr
    go_wp2_with fail
    go_loopw [9] (fun i w' => ∃ k : Nat, k ≤ 15 ∧ k ≤ l.length ∧ i = .int .i64 k ∧ Hid (ClS W lv k w')) (fun i _ => 15 - (intOf i).toNat)
    case atStart => exact ⟨0, by omega, by omega, rfl, HR0⟩
    case round =>
      clear HR0
      obtain ⟨k, hk15, hkl, rfl, HR⟩ := hrel
      obtain ⟨hs', b, H3, I3, B3⟩ := HR.out
      by_cases hlt : k < l.length ∧ k < 15
      · obtain ⟨hlt1, hlt2⟩ := hlt
        obtain ⟨bA, offA, z, rfl, hz0, hzb, hzl⟩ := Ints.getE HAS.out hlt1
        have HZC : Hid (∀ w', Below W.heap.size W w' → w'.cell? ⟨bA, offA + k, none⟩ = some (.int .i64 z)) := fun w' hw => cell_fr hz0 (Fr.of_below (S := fun _ => False) hw) id
        have hz := HZC.out wr B3
        have hi0 := withinI_ge z 3
        have hi1 := withinI_lt z 3 (by decide)
        have hq0 := withinI_ge (z.tdiv 3) 5
        have hq1 := withinI_lt (z.tdiv 3) 5 (by decide)
        have hzq : -9223372036854775808 ≤ z.tdiv 3 ∧ z.tdiv 3 ≤ 9223372036854775807 := by
          have h1 := Int.natAbs_tdiv z 3
          have h2 : z.tdiv 3 = (z.tdiv 3) := rfl
          rcases Int.le_total 0 z with h3 | h3
          · rw [Int.tdiv_eq_ediv_of_nonneg h3]; omega
          · have h4 : z.tdiv 3 = -((-z).tdiv 3) := by rw [Int.neg_tdiv, Int.neg_neg]
            rw [h4, Int.tdiv_eq_ediv_of_nonneg (by omega)]; omega
        obtain ⟨D1, hD1⟩ : ∃ D1, D1 = withinI z 3 := ⟨_, rfl⟩
        obtain ⟨Q1, hQ1⟩ : ∃ Q1, Q1 = withinI (z.tdiv 3) 5 := ⟨_, rfl⟩
        have HW1 : Hid (∀ W2 : World, Calls Try.prog 15 #[.int .i64 z, .int .i64 3] W2 fun e w' => e = .returned (.int .i64 D1) ∧ W2 = w') := fun W2 => by rw [hD1]; exact within_any z 3 W2 (by decide) hzb.1 hzb.2
        have HW2 : Hid (∀ W2 : World, Calls Try.prog 15 #[.int .i64 (z.tdiv 3), .int .i64 5] W2 fun e w' => e = .returned (.int .i64 Q1) ∧ W2 = w') := fun W2 => by rw [hQ1]; exact within_any (z.tdiv 3) 5 W2 (by decide) hzq.1 hzq.2
        rw [← hD1] at hi0 hi1
        obtain ⟨dn, rfl⟩ := Int.eq_ofNat_of_zero_le hi0
        rw [← hQ1] at hq0 hq1
        have hwq : IntKind.i64.wrap (z.tdiv 3) = z.tdiv 3 := by rw [IntKind.wrap_i64]; omega
        have hwk : IntKind.i64.wrap ((k : Int) + 1) = (k : Int) + 1 := by rw [IntKind.wrap_i64]; omega
        obtain ⟨x, hx⟩ : ∃ x, x = secL ((k : Int) + 1) := ⟨_, rfl⟩
        have HSEC : Hid (∀ W2 : World, Calls Try.prog 17 #[.int .i64 ((k : Int) + 1)] W2 fun e w' => ∃ v, e = .returned v ∧ Own w' W2.heap.size v x ∧ Below W2.heap.size W2 w') := fun W2 => by rw [hx]; exact sector_any _ W2 (by omega)
        have HXL : Hid (x.length = 32) := by rw [hx]; exact secL_len _
        have HWR : Hid (∀ (W2 w4 : World) (v : Value), Below wr.heap.size wr W2 → Below W2.heap.size W2 w4 → Own w4 W2.heap.size v x → ∀ w5, Below w4.heap.size w4 w5 → Calls Try.prog 38 #[.pointer (some ⟨W.heap.size, 0, none⟩), .int .i64 (dn : Int), .int .i64 Q1, v] w5 fun e w' => ∃ ev hs5 b5, e = .returned (.int .i64 ev) ∧ IsBench w' W.heap.size W.heap.size lv hs5 b5 ∧ BI b5 (k + 1) ∧ Below W.heap.size W w') := fun W2 w4 v h1 h2 h3 w5 h5 => by
          have hb := belT (belT h1 h2) h5
          have ho : Own w5 W2.heap.size v x := h3.up h5
          have hsz := I3.sz (by omega)
          have hBW : Below W.heap.size W w5 := belT B3 hb
          refine (bwrite_any w5 _ _ _ _ _ (dn : Int) Q1 v _ (H3.up hb) ho.byt (fun y hy hof => by have h8 := ho.ge y hy; have h9 := H3.lts y hof; have := h1.size; omega) hBW.size hsz.1 hsz.2.1 hsz.2.2).mono ?_
          rintro e w' ⟨rfl, hs5, H5, F5, q5⟩
          exact ⟨_, hs5, _, rfl, H5, I3.write hi0 hi1 hq0 (by omega) HXL.out, Fr.below hBW F5 hBW.size (fun y hy => (H3.up hb).ges y hy)⟩
        clear hD1 hQ1 hx hz0 hzl
        have hBr : Below wr.heap.size wr wr := belR _
        go_wp2_with fail
        go_region_held3 (fun w' => w'.cell? ⟨bA, offA + k, none⟩ = some (.int .i64 z))
          ((refine HZC.out _ ?_; iterate 8 try (first | assumption | apply belDr | apply belAlloc)))
          ((first
            | (go_at_call_of 15 (Value.int .i64 z); refine Calls.mono (HW1.out _) ?_; rintro e w2 ⟨rfl, rfl⟩)
            | (go_at_call 15; refine Calls.mono (HW2.out _) ?_; rintro e w2 ⟨rfl, rfl⟩)
            | (go_at_call 17; refine Calls.mono (HSEC.out _) ?_; rintro e w4 ⟨v4, rfl, O4, b4⟩; have hB4 : Below W.heap.size W w4 := belT B3 (by first | exact b4 | exact belT (belDr (belR _)) b4))
            | (go_at_call 38; refine Calls.mono (HWR.out _ _ _ (by iterate 8 try (first | exact belR _ | apply belDr)) b4 O4 _ (by iterate 8 try (first | exact belR _ | apply belDr))) ?_; rintro e w5 ⟨ev, hs5, b5, rfl, H5, I5, hB5⟩)))
        all_goals
          have hz5 := HZC.out w5 hB5
          clear HZC HW2 HSEC HWR H3 I3 B3 O4 b4 hB4
          go_wp2_with fail
          · refine Calls.mono (HW1.out _) ?_
            rintro e w6 ⟨rfl, rfl⟩
            go_wp2_with fail
            refine Calls.mono (bflush_all _ _ _ _ _ _ dn _ H5 I5 (by omega)) ?_
            rintro e w7 ⟨v7, b7, hs7, rfl, H7, I7, F7, q7⟩
            have B7 := Fr.below hB5 F7 hB5.size (fun y hy => H5.ges y hy)
            go_wp2_with fail
            go_roundw
            case rel => exact ⟨k + 1, by omega, by omega, by go_num, Lib.hid ⟨hs7, b7, H7, I7, B7⟩⟩
            case measure => simp [intOf]; omega
          · go_roundw
            case rel => exact ⟨k + 1, by omega, by omega, by go_num, Lib.hid ⟨hs5, b5, H5, I5, hB5⟩⟩
            case measure => simp [intOf]; omega
      · by_cases hl1 : k < l.length
        case' pos => have hl2 : ¬ k < 15 := fun h => hlt ⟨hl1, h⟩
        all_goals
          clear hlt
          go_wp2_with fail
          refine Calls.mono (bclone_any wr _ _ _ _ _ H3 (by rw [I3.len]; decide) (fun d hd => by have := (I3.sz (by omega)).1 d hd; omega)) ?_
          obtain ⟨gc, hgc⟩ : ∃ gc, gc = wr.heap.size := ⟨_, rfl⟩
          rw [← hgc]
          rintro e w4 ⟨rfl, ⟨lv2, hs2, E4⟩, b4⟩
          have H4 := H3.up (by rw [hgc] at b4; exact b4)
          have B4 : Below W.heap.size W w4 := belT B3 (by rw [hgc] at b4; exact b4)
          have A4 : ∀ x, ofB gc lv2 hs2 x → ¬ ofB W.heap.size lv hs' x := fun x hx ho => by
            have h1 := E4.ges x hx
            have h2 := H3.lts x ho
            omega
          have hgl : W.heap.size < gc := by rw [hgc]; exact H3.lt
          clear hgc b4 HR hl1
          have HDc : Hid (∀ W2, Below w4.heap.size w4 W2 → Calls Try.prog 48 #[.pointer (some ⟨gc, 0, none⟩)] W2 fun e w' => e = .returned (.bool b.down) ∧ W2 = w') := fun W2 h => bdown_any _ _ _ _ _ _ (E4.up h)
          have HDb : Hid (∀ W2, Below w4.heap.size w4 W2 → Calls Try.prog 48 #[.pointer (some ⟨W.heap.size, 0, none⟩)] W2 fun e w' => e = .returned (.bool b.down) ∧ W2 = w') := fun W2 h => bdown_any _ _ _ _ _ _ (H4.up h)
          have HPc : Hid (∀ W2, Below w4.heap.size w4 W2 → Calls Try.prog 42 #[.pointer (some ⟨gc, 0, none⟩)] W2 fun e w' => e = .returned (.int .i64 (B.pending b : Nat)) ∧ W2 = w') := fun W2 h => bpending_any _ _ _ _ _ _ (E4.up h) (I3.pend (by omega))
          have HPb : Hid (∀ W2, Below w4.heap.size w4 W2 → Calls Try.prog 42 #[.pointer (some ⟨W.heap.size, 0, none⟩)] W2 fun e w' => e = .returned (.int .i64 (B.pending b : Nat)) ∧ W2 = w') := fun W2 h => bpending_any _ _ _ _ _ _ (H4.up h) (I3.pend (by omega))
          have HWc : Hid (∀ W2, Below w4.heap.size w4 W2 → Calls Try.prog 41 #[.pointer (some ⟨gc, 0, none⟩)] W2 fun e w' => e = .returned (.int .i64 b.writes) ∧ W2 = w') := fun W2 h => bwrites_any _ _ _ _ _ _ (E4.up h)
          have HWb : Hid (∀ W2, Below w4.heap.size w4 W2 → Calls Try.prog 41 #[.pointer (some ⟨W.heap.size, 0, none⟩)] W2 fun e w' => e = .returned (.int .i64 b.writes) ∧ W2 = w') := fun W2 h => bwrites_any _ _ _ _ _ _ (H4.up h)
          have HLc : Hid (∀ W2, Below w4.heap.size w4 W2 → Calls Try.prog 51 #[.pointer (some ⟨gc, 0, none⟩)] W2 fun e w' => e = .returned (.int .i64 3) ∧ W2 = w') := fun W2 h => by
            have h9 := blen_any _ _ _ _ _ _ (E4.up h)
            rw [I3.len] at h9
            exact h9
          have HS4 : Hid (Cl3 W lv gc lv2 b b w4) := ⟨hs', hs2, H4, E4, A4, B4, hgl⟩
          have I4 := I3.up (show k ≤ 15 from hk15)
          clear E4 A4
          go_wp2_with fail
          go_region_held3 (fun _ => True) (trivial)
            ((first
                      | (go_at_call_of 48 (Value.pointer (some ⟨gc, 0, none⟩)); refine Calls.mono (HDc.out _ (by iterate 8 try (first | exact belR _ | apply belDr))) ?_; rintro e w9 ⟨rfl, rfl⟩)
                      | (go_at_call_of 48 (Value.pointer (some ⟨W.heap.size, 0, none⟩)); refine Calls.mono (HDb.out _ (by iterate 8 try (first | exact belR _ | apply belDr))) ?_; rintro e w9 ⟨rfl, rfl⟩)
                      | (go_at_call_of 42 (Value.pointer (some ⟨gc, 0, none⟩)); refine Calls.mono (HPc.out _ (by iterate 8 try (first | exact belR _ | apply belDr))) ?_; rintro e w9 ⟨rfl, rfl⟩)
                      | (go_at_call_of 42 (Value.pointer (some ⟨W.heap.size, 0, none⟩)); refine Calls.mono (HPb.out _ (by iterate 8 try (first | exact belR _ | apply belDr))) ?_; rintro e w9 ⟨rfl, rfl⟩)
                      | (go_at_call_of 41 (Value.pointer (some ⟨gc, 0, none⟩)); refine Calls.mono (HWc.out _ (by iterate 8 try (first | exact belR _ | apply belDr))) ?_; rintro e w9 ⟨rfl, rfl⟩)
                      | (go_at_call_of 41 (Value.pointer (some ⟨W.heap.size, 0, none⟩)); refine Calls.mono (HWb.out _ (by iterate 8 try (first | exact belR _ | apply belDr))) ?_; rintro e w9 ⟨rfl, rfl⟩)
                      | (go_at_call_of 51 (Value.pointer (some ⟨gc, 0, none⟩)); refine Calls.mono (HLc.out _ (by iterate 8 try (first | exact belR _ | apply belDr))) ?_; rintro e w9 ⟨rfl, rfl⟩)
          ))
          all_goals
            clear HDc HDb HPc HPb HWc HWb HLc H4 H3 B4 B3 I3
            have HS5 : Hid (Cl3 W lv gc lv2 b b w4.drew) := HS4.out.up (belDr (belR _))
            clear HS4
            go_wp2_with fail
            go_loopw [11] (fun i w' => ∃ (t : Nat) (b' : B.Bn), t ≤ 6 ∧ i = .int .i64 t ∧ BI b' (15 + t) ∧ Hid (Cl3 W lv gc lv2 b' b' w')) (fun i _ => 6 - (intOf i).toNat)
            case atStart => exact ⟨0, b, Nat.zero_le _, rfl, I4, HS5⟩
            case round =>
              clear HS5 I4
              obtain ⟨t, b0, ht, rfl, I6, H6⟩ := hrel
              by_cases ht6 : t < 6
              · have hm3 : 0 ≤ (t : Int) % 3 ∧ (t : Int) % 3 < 3 := by omega
                have hw2 : IntKind.i64.wrap ((t : Int) + 90) = (t : Int) + 90 := by rw [IntKind.wrap_i64]; omega
                have hw3 : IntKind.i64.wrap ((t : Int) + 1) = (t : Int) + 1 := by rw [IntKind.wrap_i64]; omega
                obtain ⟨x, hx⟩ : ∃ x, x = secL ((t : Int) + 90) := ⟨_, rfl⟩
                have HXL : Hid (x.length = 32) := by rw [hx]; exact secL_len _
                have HSEC : Hid (∀ W2 : World, Calls Try.prog 17 #[.int .i64 ((t : Int) + 90)] W2 fun e w' => ∃ v, e = .returned v ∧ Own w' W2.heap.size v x ∧ Below W2.heap.size W2 w') := fun W2 => by rw [hx]; exact sector_any _ W2 (by omega)
                obtain ⟨b9, hb9⟩ : ∃ b9, b9 = B.write b0 ((t : Int) % 3) (t : Int) x := ⟨_, rfl⟩
                have I9 : BI b9 (15 + (t + 1)) := by rw [hb9]; exact I6.write hm3.1 hm3.2 (by omega) (by omega) HXL.out
                obtain ⟨E9, hE9⟩ : ∃ E9, E9 = B.writeE b0 ((t : Int) % 3) (t : Int) x := ⟨_, rfl⟩
                have HWC : Hid (∀ (W2 w4 : World) (v : Value), Below wr.heap.size wr W2 → Below W2.heap.size W2 w4 → Own w4 W2.heap.size v x → ∀ w5, Below w4.heap.size w4 w5 → Calls Try.prog 38 #[.pointer (some ⟨gc, 0, none⟩), .int .i64 ((t : Int) % 3), .int .i64 (t : Int), v] w5 fun e w' => e = .returned (.int .i64 E9) ∧ Hid (Cl3 W lv gc lv2 b0 b9 w')) := fun W2 w4 v h1 h2 h3 w5 h5 => by
                  rw [hE9, hb9]
                  exact cl3_write2 _ _ H6.out I6 (by omega) (belT (belT h1 h2) h5) (h3.up h5) h1.size
                have HWB : Hid (∀ w0, Hid (Cl3 W lv gc lv2 b0 b9 w0) → ∀ (W2 w4 : World) (v : Value), Below w0.heap.size w0 W2 → Below W2.heap.size W2 w4 → Own w4 W2.heap.size v x → ∀ w5, Below w4.heap.size w4 w5 → Calls Try.prog 38 #[.pointer (some ⟨W.heap.size, 0, none⟩), .int .i64 ((t : Int) % 3), .int .i64 (t : Int), v] w5 fun e w' => e = .returned (.int .i64 E9) ∧ Hid (Cl3 W lv gc lv2 b9 b9 w')) := fun w0 h0 W2 w4 v h1 h2 h3 w5 h5 => by
                  have h9 := cl3_write1 ((t : Int) % 3) (t : Int) h0.out I6 (by omega) (belT (belT h1 h2) h5) (h3.up h5) h1.size
                  rw [← hE9, ← hb9] at h9
                  exact h9
                clear hx hb9 hE9
                have hBr : Below wr.heap.size wr wr := belR _
                go_wp2_with fail
                go_region_held3 (fun _ => True) (trivial)
                  ((first
                    | (go_at_call 17; refine Calls.mono (HSEC.out _) ?_; rintro e w4 ⟨v4, rfl, O4, b4⟩)
                    | (go_at_call_of 38 (Value.pointer (some ⟨gc, 0, none⟩)); refine Calls.mono (HWC.out _ _ _ (by iterate 8 try (first | exact belR _ | apply belDr)) b4 O4 _ (by iterate 8 try (first | exact belR _ | apply belDr))) ?_; rintro e w5 ⟨rfl, C5⟩)
                    | (go_at_call_of 38 (Value.pointer (some ⟨W.heap.size, 0, none⟩)); refine Calls.mono (HWB.out _ C5 _ _ _ (by iterate 8 try (first | exact belR _ | apply belDr)) b4 O4 _ (by iterate 8 try (first | exact belR _ | apply belDr))) ?_; rintro e w6 ⟨rfl, C6⟩)
                    | (go_at_call_of 48 (Value.pointer (some ⟨gc, 0, none⟩)); refine Calls.mono (cl3_down2 (C6.out.up (by iterate 8 try (first | exact belR _ | apply belDr)))) ?_; rintro e w9 ⟨rfl, rfl⟩)
                    | (go_at_call_of 48 (Value.pointer (some ⟨W.heap.size, 0, none⟩)); refine Calls.mono (cl3_down1 (C6.out.up (by iterate 8 try (first | exact belR _ | apply belDr)))) ?_; rintro e w9 ⟨rfl, rfl⟩)))
                all_goals
                  clear HSEC HWC HWB hBr H6
                  go_wp2_with fail
                  exact ⟨⟨t + 1, b9, by omega, by go_num, I9, C6⟩, by simp [intOf]; omega⟩
              · go_wp2_with fail
                refine Calls.mono (cl3_crash1 H6.out HKS.out) ?_
                rintro e w7 ⟨rfl, C7⟩
                have HC7 := Lib.hid C7
                clear C7
                go_wp2_with fail
                refine Calls.mono (cl3_crash2 HC7.out HKS.out) ?_
                rintro e w8 ⟨rfl, C8⟩
                obtain ⟨hI8, hdn8, hlf8, _⟩ := I6.crash ks
                obtain ⟨bq, hbq⟩ : ∃ bq, bq = B.crash b0 ks := ⟨_, rfl⟩
                rw [← hbq] at C8 hI8 hdn8 hlf8
                have HB8 : Hid (BI bq (15 + t) ∧ bq.down = false ∧ bq.left = -1) := ⟨hI8, hdn8, hlf8⟩
                have HC8 : Hid (Cl3 W lv gc lv2 bq bq w8) := C8
                clear hbq H6 HC7 I6 C8 hI8 hdn8 hlf8
                go_wp2_with fail
                go_loopw [12] (fun i w' => ∃ d : Nat, d ≤ 3 ∧ i = .int .i64 d ∧ Hid (Cl3 W lv gc lv2 bq bq w')) (fun i _ => 3 - (intOf i).toNat)
                case atStart => exact ⟨0, Nat.zero_le _, rfl, HC8⟩
                case round =>
                  clear HC8
                  obtain ⟨d, hd3, rfl, HD⟩ := hrel
                  by_cases hdl : d < 3
                  · have hdi : (d : Int) < 3 := by omega
                    have hwd : IntKind.i64.wrap ((d : Int) + 1) = (d : Int) + 1 := by rw [IntKind.wrap_i64]; omega
                    go_wp2_with fail
                    go_loopw [13] (fun i w' => ∃ a : Nat, a ≤ 6 ∧ i = .int .i64 a ∧ Hid (Cl3 W lv gc lv2 bq bq w')) (fun i _ => 6 - (intOf i).toNat)
                    case atStart => exact ⟨0, Nat.zero_le _, rfl, HD⟩
                    case round =>
                      clear HD
                      obtain ⟨a, ha6, rfl, HA⟩ := hrel
                      by_cases hal6 : a < 6
                      · have hwa : IntKind.i64.wrap ((a : Int) + 1) = (a : Int) + 1 := by rw [IntKind.wrap_i64]; omega
                        obtain ⟨dk, hdk, hfk, hpk⟩ := HB8.out.1.get d hdl
                        have HRD := Lib.hid (B.read_ok (a := a) HB8.out.2.1 hdk hfk (by omega))
                        clear hdk hfk hpk
                        go_wp2_with fail
                        refine Calls.mono (cl3_read1 (d : Int) (a : Int) HA.out) ?_
                        rw [HRD.out.1, HRD.out.2]
                        rintro e w12 ⟨v12, rfl, O12, b12⟩
                        have HA12 : Hid (Cl3 W lv gc lv2 bq bq w12) := HA.out.up b12
                        clear HA
                        go_wp2_with fail
                        refine Calls.mono (cl3_read2 (d : Int) (a : Int) HA12.out) ?_
                        rw [HRD.out.1, HRD.out.2]
                        rintro e w13 ⟨v13, rfl, O13, b13⟩
                        have HA13 : Hid (Cl3 W lv gc lv2 bq bq w13) := HA12.out.up b13
                        have O12' := O12.up b13
                        clear HA12 O12
                        go_wp2_with fail
                        refine Calls.mono (same_any _ _ _ _ _ O12'.byt O13.byt) ?_
                        rw [decide_eq_true rfl]
                        rintro e w14 ⟨rfl, d14⟩
                        have HA14 : Hid (Cl3 W lv gc lv2 bq bq w14) := HA13.out.up (d14.below _)
                        clear HA13 O12' O13 d14 b13
                        go_wp2_with fail
                        go_roundw
                        case rel => exact ⟨a + 1, by omega, by go_num, HA14⟩
                        case measure => simp [intOf]; omega
                      · clear ha6
                        go_wp2_with fail
                        go_roundw
                        case rel => exact ⟨d + 1, by omega, by go_num, HA⟩
                        case measure => simp [intOf]; omega
                  · clear hd3
                    obtain ⟨dk, hdk, hfk, hpk⟩ := HB8.out.1.get 0 (by decide)
                    have HF0 : Hid ((B.dk bq (0 : Nat)).f = false) := by rw [B.dk_nat hdk]; exact hfk
                    have HWO : Hid (B.writeE bq 0 0 (secL 2) = 0) := (B.write_ok (i := 0) (a := 0) (x := secL 2) HB8.out.2.1 hdk hfk (by decide) (secL_len 2) (by rw [HB8.out.2.2]; decide)).1
                    have hl03 : 0 < bq.ds.length := by rw [HB8.out.1.len]; decide
                    have HL0 := Lib.hid hl03
                    clear hl03
                    clear hdk hfk hpk
                    go_wp2_with fail
                    refine Calls.mono (cl3_fail2 0 HD.out HL0.out) ?_
                    rintro e w14 ⟨rfl, C14⟩
                    have HC14 := Lib.hid C14
                    clear C14 HD
                    go_wp2_with fail
                    refine Calls.mono (cl3_limit2 0 HC14.out (by decide)) ?_
                    rintro e w15 ⟨rfl, C15⟩
                    have HC15 := Lib.hid C15
                    clear C15 HC14
                    go_wp2_with fail
                    refine Calls.mono (cl3_failed1 0 HC15.out HL0.out) ?_
                    rw [HF0.out]
                    rintro e w16 ⟨rfl, rfl⟩
                    go_wp2_with fail
                    refine Calls.mono (sector_any 2 w15 (by decide)) ?_
                    rintro e w17 ⟨v17, rfl, O17, b17⟩
                    go_wp2_with fail
                    refine Calls.mono (cl3_write1 0 0 HC15.out HB8.out.1 (by clear HWO HB8; omega) b17 O17 (Nat.le_refl _)) ?_
                    rw [HWO.out]
                    rintro e w18 ⟨rfl, C18⟩
                    have hb18 : Below W.heap.size W w18 := C18.bel
                    clear C18 HC15 O17 b17
                    go_wp2_with fail
                    refine Calls.mono (bwakes_any w18) ?_
                    rintro e w19 ⟨rfl, b19⟩
                    go_wp2_with fail
                    go_ret
                    exact ⟨rfl, belT hb18 b19⟩
end Go.Proofs.Ytggljcdkiaggeaa
