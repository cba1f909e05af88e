/- The law DiskMemory: what is written may change behind that, what is read as well. -/
import Derived.Test.YtggljcdkiaggeaaDiskL
namespace Go.Proofs.Ytggljcdkiaggeaa
open Go.RowKit
set_option linter.unusedVariables false
set_option linter.unusedSimpArgs false
set_option maxRecDepth 100000
set_option maxHeartbeats 2000000
/-- a byte of a row that is owned is stored: what else is owned is as it was -/
theorem Own.put {w : World} {base g n cap : Nat} {l : List Nat} (h : Own w base (.slice (some ⟨g, 0, none⟩) n cap) l) {k y : Nat} (hk : k < l.length) (hy : y < 256) :
    Own (w.setCell ⟨g, k, none⟩ (.int .u8 (y : Nat))) base (.slice (some ⟨g, 0, none⟩) n cap) (l.set k y) ∧ Fr (fun b => b = g) w (w.setCell ⟨g, k, none⟩ (.int .u8 (y : Nat))) :=
  ⟨(h.store k y hy).1, Fr.cell ⟨g, k, none⟩ _⟩
theorem bor8 {c : Int} (h0 : 0 ≤ c) (h1 : c ≤ 255) : 0 ≤ bits .or .u8 c 1 ∧ bits .or .u8 c 1 < 256 := by
  obtain ⟨m, rfl⟩ := Int.eq_ofNat_of_zero_le h0
  have hm : m < 256 := by omega
  have : ∀ m : Nat, m < 256 → 0 ≤ bits .or .u8 (m : Int) 1 ∧ bits .or .u8 (m : Int) 1 < 256 := by decide +kernel
  exact this m hm
attribute [local irreducible] Go.Calls Byt Own Parts
theorem diskMemory_law (at' : Int) (hat : -9223372036854775808 ≤ at' ∧ at' ≤ 9223372036854775807) (n : Int) (hn : -9223372036854775808 ≤ n ∧ n ≤ 9223372036854775807) (k : Int) (hk : -9223372036854775808 ≤ k ∧ k ≤ 9223372036854775807) (c : Int) (hc : (0 : Int) ≤ c ∧ c ≤ 255) (W : World) :
    Calls Try.prog 4 #[.int .i64 at', .int .i64 n, .int .i64 k, .int .u8 c] W fun e W' => e = .returned (.bool true) ∧ Below W.heap.size W W' := by
  obtain ⟨r, hr⟩ : ∃ r : Nat, bits .or .u8 c 1 = (r : Int) := ⟨(bits .or .u8 c 1).toNat, by have := bor8 hc.1 hc.2; omega⟩
  have hr8 : r < 256 := by have := bor8 hc.1 hc.2; omega
  go_enter Try.func4, Try.ntmps4
  go_wp2_with fail
  refine Calls.mono (newI W) ?_
  rintro e w1 ⟨rfl, D1, b1⟩
  go_wp2_with fail
  refine Calls.mono (within_any at' 52 _ (by decide) hat.1 hat.2) ?_
  rintro e w2 ⟨rfl, rfl⟩
  go_wp2_with fail
  refine Calls.mono (within_any k 32 _ (by decide) hk.1 hk.2) ?_
  rintro e w2 ⟨rfl, rfl⟩
  have hA0 := withinI_ge at' 52
  have hA1 := withinI_lt at' 52 (by decide)
  have hN0 := withinI_ge k 32
  have hN1 := withinI_lt k 32 (by decide)
  obtain ⟨A, hA⟩ : ∃ A, A = withinI at' 52 := ⟨_, rfl⟩
  obtain ⟨N, hN⟩ : ∃ N, N = withinI k 32 := ⟨_, rfl⟩
  rw [← hA] at hA0 hA1 ⊢
  rw [← hN] at hN0 hN1 ⊢
  clear hA hN
  obtain ⟨q, rfl⟩ := Int.eq_ofNat_of_zero_le hN0
  have hq : q < 32 := by omega
  go_wp2_with fail
  refine Calls.mono (sector_any n _ hn) ?_
  obtain ⟨x, hx⟩ : ∃ x, x = secL n := ⟨_, rfl⟩
  have hx1 : x.length = 32 := by rw [hx]; exact secL_len _
  have hx2 : ∀ y ∈ x, y < 256 := by rw [hx]; exact secL_byte _
  rw [← hx]
  clear hx
  have HX1 := Lib.hid hx1
  rintro e w3 ⟨v3, rfl, O3, b3⟩
  go_wp2_with fail
  refine Calls.mono (copy_any v3 x _ O3.byt (by rw [hx1]; decide)) ?_
  rintro e w4 ⟨v4, rfl, O4, b4⟩
  have O3a := O3.up b4
  have D4 := (D1.up b3).up b4
  have B4 := belT (belT b1 b3) b4
  have A3 := apart_made D1 O3 (Nat.le_refl _)
  have A4 := apart_made (D1.up b3) O4 (Nat.le_refl _)
  go_wp2_with fail
  refine Calls.mono (writeI w4 _ _ _ _ A v3 _ D4 O3a.byt rfl hA0 hA1 hx1 B4.size (by decide)) ?_
  rintro e w5 ⟨rfl, pv5, D5, F5, p5⟩
  have O35 := O3a.fr F5 A3
  have O45 := O4.fr F5 A4
  have A35 := apart_new A3 O3a.lt p5
  have A45 := apart_new A4 O4.lt p5
  have B5 := F5.low B4 B4.size (fun b hb => D4.ges b hb)
  obtain ⟨g3, cap3, rfl, hg3, hl3, hcap3⟩ := O35.shape (by omega)
  have AP34 : ∀ b, v4.ownBlock = some b → ¬ b = g3 := fun b hb e => by
    have h1 := O4.ge b hb
    have h2 := O3.lt g3 rfl
    omega
  obtain ⟨y0, hy0⟩ : ∃ y0, x[q]? = some y0 := ⟨_, List.getElem?_eq_getElem (by omega)⟩
  have hy08 : y0 < 256 := hx2 y0 (List.mem_of_getElem? hy0)
  have hxor8 : y0 ^^^ r < 256 := xor8 hy08 hr8
  obtain ⟨h8a, hca, hfa⟩ := O35.cells hy0
  have hbx : bits .xor .u8 (y0 : Int) (r : Int) = ((y0 ^^^ r : Nat) : Int) := bx8 hy08 hr8
  obtain ⟨P3, FP3⟩ := O35.put (k := q) (y := y0 ^^^ r) (by omega) hxor8
  have F5d := F5
  rw [hx1] at P3
  have D6 := D5.fr FP3 (fun b hb e => A35 b (by rw [e]; rfl) hb)
  have O46 := O45.fr FP3 AP34
  have B6 := Fr.below B5 FP3 B5.size (fun b hb => by have := hg3; have := b1.size; have hD := D1.lt; omega)
  have hqi : (q : Int) < 32 := by omega
  have hqc : (q : Int) ≤ (cap3 : Int) := by omega
  go_wp2_with fail
  obtain ⟨w6, hw6⟩ : ∃ w6, w6 = w5.setCell ⟨g3, q, none⟩ (.int .u8 ((y0 ^^^ r : Nat) : Int)) := ⟨_, rfl⟩
  rw [← hw6] at D6 O46 B6 P3 ⊢
  have hl6 : D.look (D.write D.blank A.toNat x) A.toNat = x := D.look_write_same _ _ _
  have hb6 : D.look (D.flush (D.write D.blank A.toNat x)) A.toNat = x := by rw [D.look_flush D6.ok (by omega)]; exact hl6
  obtain ⟨x', hx'⟩ : ∃ x', x' = x.set q (y0 ^^^ r) := ⟨_, rfl⟩
  have hx1' : x'.length = 32 := by rw [hx', List.length_set]; exact hx1
  rw [← hx'] at P3
  have A36 := A35
  have A46 := A45
  have hf6 : (D.write D.blank A.toNat x).f = false := rfl
  have hp6 : (D.write D.blank A.toNat x).p.length = 1 := rfl
  have HL6 := Lib.hid hl6
  have HB6 := Lib.hid hb6
  have HX1' := Lib.hid hx1'
  obtain ⟨d, hd⟩ : ∃ d, d = D.write D.blank A.toNat x := ⟨_, rfl⟩
  have HD := Lib.hid hd
  have HHX := Lib.hid (show x.length = 32 from hx1)
  have H8 := Lib.hid hxor8
  clear hl6 hb6 hx1' hf6 hp6
  have HF : Hid (d.f = false) := by rw [hd]; rfl
  rw [← hd] at HL6 HB6 D6
  clear hw6 hx' hd hca hfa D1 D4 D5 b1 b3 b4 O3 O4 O35 O45 O3a F5 F5d p5 A3 A4 A35 A45 FP3 B4 B5
  refine Calls.mono (readI w6 _ _ _ _ A D6 HF.out hA0 hA1) ?_
  rw [HL6.out]
  rintro e w7 ⟨v7, rfl, O7, b7⟩
  have O47 := O46.up b7
  have D7 := D6.up b7
  have O37 := P3.up b7
  have A77 := apart_made D6 O7 (Nat.le_refl _)
  have B7 := belT B6 b7
  go_wp2_with fail
  refine Calls.mono (same_any _ _ x x _ O7.byt O47.byt) ?_
  rw [decide_eq_true rfl]
  rintro e w8 ⟨rfl, d8⟩
  have O48 := O47.up (d8.below _)
  have D8 := D7.up (d8.below _)
  have O38 := O37.up (d8.below _)
  have O78 := O7.up (d8.below _)
  have B8 := belT B7 (d8.below _)
  obtain ⟨g7, cap7, rfl, hg7, hl7, hcap7⟩ := O78.shape (by rw [HHX.out]; decide)
  have N3 : ¬ g3 = g7 := by have := P3.lt g3 rfl; omega
  have N4 : ∀ b, v4.ownBlock = some b → ¬ b = g7 := fun b hb => by have := O46.lt b hb; omega
  obtain ⟨h8b, hcb, hfb⟩ := O78.cells hy0
  obtain ⟨P7, FP7⟩ := O78.put (k := q) (y := y0 ^^^ r) (by rw [HHX.out]; exact hq) H8.out
  have D9 := D8.fr FP7 (fun b hb e => A77 b (by rw [e]; rfl) hb)
  have O49 := O48.fr FP7 N4
  have O39 := O38.fr FP7 (fun b hb e => N3 (by cases hb; exact e))
  have hWl : W.heap.size ≤ w6.heap.size := B6.size
  have B9 := Fr.below B8 FP7 B8.size (fun b hb => by omega)
  have hqc7 : (q : Int) ≤ (cap7 : Int) := by omega
  rw [HHX.out]
  go_wp2_with fail
  obtain ⟨w9, hw9⟩ : ∃ w9, w9 = w8.setCell ⟨g7, q, none⟩ (.int .u8 ((y0 ^^^ r : Nat) : Int)) := ⟨_, rfl⟩
  rw [← hw9] at D9 O49 O39 B9 ⊢
  clear hw9 hcb hfb D6 D7 D8 O46 O47 O48 O37 O38 O7 O78 P7 FP7 P3 B6 B7 B8 b7 d8
  refine Calls.mono (readI w9 _ _ _ _ A D9 HF.out hA0 hA1) ?_
  rw [HL6.out]
  rintro e w10 ⟨v10, rfl, O10, b10⟩
  have O4a := O49.up b10
  have Da := D9.up b10
  have O3a := O39.up b10
  have Ba := belT B9 b10
  have A10 := apart_made D9 O10 (Nat.le_refl _)
  go_wp2_with fail
  refine Calls.mono (flush_any _ _ _ _ _ Da HF.out) ?_
  rintro e w11 ⟨rfl, Db, Fb⟩
  have O4b := O4a.fr (Fb.obj (pv := pv5)) A46
  have O3b := O3a.fr (Fb.obj (pv := pv5)) A36
  have O10b := O10.fr (Fb.obj (pv := pv5)) A10
  have Bb := (Fb.obj (pv := pv5)).low Ba Ba.size (fun b hb => Da.ges b hb)
  go_wp2_with fail
  refine Calls.mono (dclone_any _ _ _ _ _ Db (by show (([] : List (Nat × List Nat)).length) * 40 ≤ _; decide)) ?_
  rintro e w12 ⟨pv12, rfl, Ec, bc⟩
  have O4c := O4b.up bc
  have O3c := O3b.up bc
  have O10c := O10b.up bc
  have Dc := Db.up bc
  have Bc := belT Bb bc
  go_wp2_with fail
  refine Calls.mono (same_any _ _ x x _ O10c.byt O4c.byt) ?_
  rw [decide_eq_true rfl]
  rintro e w13 ⟨rfl, d13⟩
  have O4d := O4c.up (d13.below _)
  have O3d := O3c.up (d13.below _)
  have Dd := Dc.up (d13.below _)
  have Ed := Ec.up (d13.below _)
  have Bd := belT Bc (d13.below _)
  have hEb : w11.heap.size ≤ w13.heap.size := Nat.le_trans bc.size (d13.below w12.heap.size).size
  go_wp2_with fail
  refine Calls.mono (writeI w13 _ _ _ _ A _ x' Ed O3d.byt HF.out hA0 hA1 HX1'.out hEb (by show (([] : List (Nat × List Nat)).length + 1) * 40 ≤ _; decide)) ?_
  rintro e w14 ⟨rfl, pv14, Ee, Fe, pe⟩
  have hEge : ∀ b, ofD w11.heap.size pv12 b → w11.heap.size ≤ b := fun b hb => Ec.ges b hb
  have O4e := O4d.fr Fe (fun b hb ho => by have := O4b.lt b hb; have := hEge b ho; omega)
  have O3e := O3d.fr Fe (fun b hb ho => by have := O3b.lt b hb; have := hEge b ho; omega)
  have De := Dd.fr Fe (fun b hb ho => by have := Db.lts b hb; have := hEge b ho; omega)
  have Be := Fe.low Bd Bd.size (fun b hb => by have := hEge b hb; have := Bb.size; omega)
  go_wp2_with fail
  refine Calls.mono (readI w14 _ _ _ _ A De HF.out hA0 hA1) ?_
  rw [HB6.out]
  rintro e w15 ⟨v15, rfl, O15, b15⟩
  go_wp2_with fail
  refine Calls.mono (readI w15 _ _ _ _ A (Ee.up b15) HF.out hA0 hA1) ?_
  rw [D.look_write_same]
  rintro e w16 ⟨v16, rfl, O16, b16⟩
  have c16 := belT b15 b16
  go_wp2_with fail
  refine Calls.mono (same_any _ _ x x _ (O15.up b16).byt (O4e.up c16).byt) ?_
  rw [decide_eq_true rfl]
  rintro e w17 ⟨rfl, d17⟩
  have c17 := belT c16 (d17.below _)
  go_wp2_with fail
  refine Calls.mono (same_any _ _ x' x' _ (O16.up (d17.below _)).byt (O3e.up c17).byt) ?_
  rw [decide_eq_true rfl]
  rintro e w18 ⟨rfl, d18⟩
  have c18 := belT c17 (d18.below _)
  go_wp2_with fail
  refine Calls.mono (pending_any _ _ _ _ _ (De.up c18)) ?_
  rintro e w19 ⟨rfl, rfl⟩
  go_wp2_with fail
  refine Calls.mono (pending_any _ _ _ _ _ (Ee.up c18)) ?_
  rintro e w19 ⟨rfl, rfl⟩
  go_wp2_with fail
  refine Calls.mono (wakes_any _) ?_
  rintro e w20 ⟨rfl, b20⟩
  go_wp2
  go_ret
  exact ⟨rfl, belT (belT Be c18) b20⟩
end Go.Proofs.Ytggljcdkiaggeaa
