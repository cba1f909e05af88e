/- The walk of disk's Damage. -/
import Derived.Test.YtggljcdkiaggeaaDiskDf
import Derived.Test.YtggljcdkiaggeaaDiskPut
import Derived.Deep.RegionHeld3
import Derived.Deep.DrawnRows
namespace Go.Proofs.Ytggljcdkiaggeaa
open Go.RowKit
set_option linter.unusedVariables false
set_option linter.unusedSimpArgs false
set_option maxRecDepth 100000
set_option maxHeartbeats 1000000
attribute [local go_sem ↓] Go.wp_at_zero Go.wp_at_succ

theorem del_nil (w : World) (b4 : Nat) (a : Int) (hc : w.cell? ⟨b4, 0, none⟩ = some (.int .i64 a)) :
    Calls Try.prog 57 #[.slice none 0 0, .func (.func 58) #[] #[.pointer (some ⟨b4, 0, none⟩)]] w fun e w' => e = .returned (.slice none 0 0) ∧ Below w.heap.size w w' := by
  have hix := indexf_any w [] none 0 b4 a (Nat.le_refl _) (by decide) (fun k v hv => by simp at hv) (fun v hv => by cases hv) hc
  have HIX := Lib.hid hix
  clear hix hc
  go_enter Try.func57, Try.ntmps57
  go_wp2_with fail
  refine Calls.mono HIX.out ?_
  rintro e w1 ⟨r, rfl, hb1, hr⟩
  rcases hr with ⟨rfl, _⟩ | ⟨k, _, hk, _⟩
  · go_wp2_with fail
    go_ret
    exact ⟨rfl, hb1⟩
  · simp at hk
/-- DeleteFunc on what a clone of writes is -/
theorem del_row (w : World) (p : List (Nat × List Nat)) (v : Value) (b4 : Nat) (a : Int) (base : Nat) (h : w.ownsRow base 82 33 v p.length (pcells p)) (hs : ∀ v ∈ p, v.2.length = 32) (hc : w.cell? ⟨b4, 0, none⟩ = some (.int .i64 a)) (hne : b4 < base) :
    Calls Try.prog 57 #[v, .func (.func 58) #[] #[.pointer (some ⟨b4, 0, none⟩)]] w fun e w' =>
      ∃ v', e = .returned v' ∧ w'.ownsRow base 82 33 v' (notAt a p).length (pcells (notAt a p)) ∧ Fr (fun x => base ≤ x) w w' := by
  rcases h.2 with ⟨rfl, hn⟩ | ⟨b, cap, cur, rfl, hb, _⟩
  · have hp : p = [] := List.eq_nil_of_length_eq_zero hn
    subst hp
    exact (del_nil w b4 a hc).mono (by rintro e w' ⟨rfl, hb⟩; exact ⟨_, rfl, World.ownsRow_nil _ _ _ _, Fr.of_below hb⟩)
  · exact (del_any w p b cap b4 a base h hs hc (by omega) hb).mono (by rintro e w' ⟨v', rfl, h1, h2⟩; exact ⟨_, rfl, h1, h2.mono (fun x hx => by omega)⟩)
theorem dmg_no (w : World) (base g : Nat) (pv : Value) (d : D.Dk) (at' : Int) (bv : Value) (x : List Nat) (h : IsDisk w base g pv d) (hx : Byt w bv x) (hn : putI d at' x ≠ 0) :
    Calls Try.prog 26 #[.pointer (some ⟨g, 0, none⟩), .int .i64 at', bv] w fun e w' => e = .returned (.int .i64 (putI d at' x)) ∧ Below w.heap.size w w' := by
  obtain ⟨hz82, hi82⟩ := zero_of_info write_info
  obtain ⟨Z, hZ⟩ : ∃ Z, Z = (wcells (0, List.replicate 32 0)).toArray := ⟨_, rfl⟩
  have HZS : Hid (Z.size = 33) := by show Z.size = 33; rw [hZ]; rfl
  rw [← hZ] at hz82
  clear hZ
  have HI := Lib.hid hi82
  obtain ⟨m, hm⟩ : ∃ m, m = putI d at' x := ⟨_, rfl⟩
  obtain ⟨W1, hW1⟩ : ∃ W1, W1 = w.alloc (.cells #[.int .i64 at'] 3) := ⟨_, rfl⟩
  have hc := put_no W1 base g pv d at' bv x (by rw [hW1]; exact h.up (belA1 (belR w))) (by rw [hW1]; exact hx.alloc) hn
  have HB1 : Hid (Below w.heap.size w W1) := by rw [hW1]; exact belA1 (belR w)
  rw [← hm] at hc hn ⊢
  have hb : (m != 0) = true := by rw [bne_iff_ne]; exact hn
  have HC := Lib.hid hc
  have hcell : W1.cell? ⟨w.heap.size, 0, none⟩ = some (.int .i64 at') := by
    rw [hW1, cell_of_row _ _ 0 _ _ _ (heap_alloc_new w _)]; rfl
  rw [hW1] at hcell
  have HW1 := Lib.hid hW1
  clear hi82 hm hc hn h hx hW1
  go_enter Try.func26, Try.ntmps26
  go_wp2_with fail
  rw [← HW1.out]
  refine Calls.mono HC.out ?_
  rintro e w1 ⟨cs, rfl, hcl, hc1, hbel⟩
  have HCS : Hid (cs.toArray.size = 33) := by show cs.toArray.size = 33; rw [List.size_toArray]; exact hcl
  have HC1 := Lib.hid hc1
  have HCL := Lib.hid hcl
  clear hc1 hcl
  go_wp2_with (first
    | (refine wpList_store_new rfl 82 _ _ rfl w1.heap.size w1 rfl Z cs.toArray rfl rfl rfl (by rw [HCS.out]; exact HI.out) (by rw [HZS.out, HCS.out]) (all_oneCell_toArray HC1.out) ?_)
    | fail)
  go_ret
  exact ⟨rfl, belA1 (belT HB1.out hbel)⟩
theorem dmg_yes (w : World) (base g : Nat) (pv : Value) (d : D.Dk) (a : Nat) (bv : Value) (x : List Nat) (h : IsDisk w base g pv d) (hx : Byt w bv x) (hf : d.f = false) (ha : a < 52) (hl : x.length = 32) (hb0 : base ≤ w.heap.size) (hsz : d.p.length * 40 ≤ 140737488355328) :
    Calls Try.prog 26 #[.pointer (some ⟨g, 0, none⟩), .int .i64 a, bv] w fun e w' => e = .returned (.int .i64 0) ∧ ∃ pv', IsDisk w' base g pv' (D.damage d a x) ∧ Fr (fun b => b = g) w w' ∧ (∀ b, pv'.ownBlock = some b → w.heap.size ≤ b) := by
  obtain ⟨hz82, hi82⟩ := zero_of_info write_info
  obtain ⟨Z, hZ⟩ : ∃ Z, Z = (wcells (0, List.replicate 32 0)).toArray := ⟨_, rfl⟩
  have HZS : Hid (Z.size = 33) := by show Z.size = 33; rw [hZ]; rfl
  rw [← hZ] at hz82
  clear hZ
  have HI := Lib.hid hi82
  have HY := Lib.hid (zero_of_info sec_info).2
  obtain ⟨W1, hW1⟩ : ∃ W1, W1 = w.alloc (.cells #[.int .i64 (a : Int)] 3) := ⟨_, rfl⟩
  have D1 : IsDisk W1 base g pv d := by rw [hW1]; exact h.up (belA1 (belR w))
  have hc := put_yes W1 base g pv d a bv x D1 (by rw [hW1]; exact hx.alloc) hf ha hl
  have HB1 : Hid (Below w.heap.size w W1) := by rw [hW1]; exact belA1 (belR w)
  have hs1 : W1.heap.size = w.heap.size + 1 := by rw [hW1]; simp
  have hcell : W1.cell? ⟨w.heap.size, 0, none⟩ = some (.int .i64 (a : Int)) := by
    rw [hW1, cell_of_row _ _ 0 _ _ _ (heap_alloc_new w _)]; rfl
  have HCELL := Lib.hid hcell
  rw [hW1] at hcell
  have HW1 := Lib.hid hW1
  obtain ⟨cs, hcs⟩ : ∃ cs, cs = wcells (a, x) := ⟨_, rfl⟩
  have hcl : cs.length = 33 := by rw [hcs]; exact wcells_len hl
  have HCS : Hid (cs.toArray.size = 33) := by show cs.toArray.size = 33; rw [List.size_toArray]; exact hcl
  have HC1 : Hid (∀ u ∈ cs, u.oneCell' = true) := by rw [hcs]; exact wcells_one _
  have HCL := Lib.hid hcl
  have HCE := Lib.hid hcs
  have HX : Hid (∀ y ∈ x, y < 256) := hx.bytes
  have HL := Lib.hid hl
  have HD1 := Lib.hid D1
  have hg0 : g < w.heap.size := h.lt
  have HS1 := Lib.hid hs1
  rw [← hcs] at hc
  have HC := Lib.hid hc
  have ha0 : (0 : Int) ≤ (a : Int) := by omega
  have ha1 : (a : Int) < 52 := by omega
  clear hi82 hc h hx hcs hcl hl D1 hW1 hs1
  go_enter Try.func26, Try.ntmps26
  go_wp2_with fail
  rw [← HW1.out]
  refine Calls.mono HC.out ?_
  rintro e w1 ⟨rfl, hbel⟩
  obtain ⟨W2, hW2⟩ : ∃ W2, W2 = w1.alloc (.cells cs.toArray 82) := ⟨_, rfl⟩
  have HW2 := Lib.hid hW2
  have HB2 : Hid (W2.rangeAt w1.heap.size 1 (x.map u8v)) := by
    rw [hW2]
    intro j u hu
    rw [cell_of_row _ _ _ _ _ _ (heap_alloc_new w1 _), Nat.add_comm 1 j, HCE.out]
    simpa [wcells] using hu
  have HD2 : Hid (IsDisk W2 base g pv d) := by rw [hW2]; exact (HD1.out.up hbel).up (belA1 (belR w1))
  have HBl : Hid (Below w.heap.size w W2) := by rw [hW2]; exact belA1 (belT HB1.out hbel)
  have HCW : Hid (W2.cell? ⟨w.heap.size, 0, none⟩ = some (.int .i64 (a : Int))) := by
    rw [hW2]; exact cell_fr (cell_fr HCELL.out (Fr.of_below (S := fun _ => False) hbel) id) (Fr.alloc (S := fun _ => False) _ _) id
  have HT : Hid (W2.there g (a * 32) 32) := HD2.out.sec_there ha
  have hw1 : w.heap.size < w1.heap.size := by have := hbel.size; have := HS1.out; omega
  have HW2S : Hid (w1.heap.size < W2.heap.size) := by show _ < _; rw [hW2]; simp
  clear hW2 hcell
  go_wp2_with (first
    | (refine wpList_store_new rfl 82 _ _ rfl w1.heap.size w1 rfl Z cs.toArray rfl rfl rfl (by rw [HCS.out]; exact HI.out) (by rw [HZS.out, HCS.out]) (all_oneCell_toArray HC1.out) ?_; rw [← HW2.out])
    | fail)
  have hxl : (x.map u8v).length = 32 := by rw [List.length_map]; exact HL.out
  have hy1 := HY.out
  have hy2 : (Try.prog.info? 76).map (·.size) = some (x.map u8v).length := by rw [hxl]; exact HY.out
  have hu76 := Try.underlying76
  have hon := u8v_one x
  have k1 := HCW.out
  have k2 := HB2.out
  have k3 := HT.out
  go_region_held3 (fun w' => w'.cell? ⟨w.heap.size, 0, none⟩ = some (.int .i64 (a : Int)) ∧ w'.rangeAt w1.heap.size 1 (x.map u8v) ∧ w'.there g (a * 32) 32)
    ((go_split_ands; (try refine ⟨?_, ?_, ?_⟩) <;> first | assumption | (refine cell_cells ?_ ?_ <;> first | assumption | omega) | (refine rangeAt_cells ?_ ?_ <;> first | assumption | omega) | (apply World.there_setCells; assumption)))
    (fail)
  all_goals
    clear k1 k2 k3 hy1 hy2 hu76 hon hxl
    have HD3 : Hid (IsDisk (W2.drew.setCells g (a * 32) (x.map u8v)) base g pv { d with l := d.l.set a x }) := (HD2.out.up (belDr (belR _))).setSec ha HL.out HX.out
    obtain ⟨W3, hW3⟩ : ∃ W3, W3 = W2.drew.setCells g (a * 32) (x.map u8v) := ⟨_, rfl⟩
    have HF3 : Hid (Fr (fun b => b = g) w W3) := by rw [hW3]; exact ((Fr.of_below HBl.out).trans (Fr.drew _)).trans (Fr.cells _ _ _ _)
    have HC3 : Hid (W3.cell? ⟨w.heap.size, 0, none⟩ = some (.int .i64 (a : Int))) := by rw [hW3]; exact cell_cells (by simpa using HCW.out) (by omega)
    have HS3 : Hid (w.heap.size < W3.heap.size) := by
      rw [hW3]
      exact Nat.lt_of_lt_of_le (Nat.lt_of_lt_of_le hw1 (Nat.le_of_lt HW2S.out)) ((Fr.drew (S := fun b => b = g) W2).trans (Fr.cells _ _ _ _)).size
    rw [← hW3] at HD3 ⊢
    clear hW3
    have hpv := HD3.out.pv_cell
    go_wp2_with fail
    refine Calls.mono (clone_writes pv d.p base W3 HD3.out.pend HD3.out.ok.psec hsz) ?_
    rintro e w4 ⟨v4, rfl, O4, b4⟩
    go_wp2_with fail
    refine Calls.mono (del_row w4 d.p v4 w.heap.size (a : Int) W3.heap.size O4 HD3.out.ok.psec (cell_fr HC3.out (Fr.of_below (S := fun _ => False) b4) id) HS3.out) ?_
    rintro e w5 ⟨v5, rfl, O5, F5⟩
    obtain ⟨ao5, cap5, rfl⟩ := row_shape O5
    have hg3 : ¬ W3.heap.size ≤ g := by have := HD3.out.lt; omega
    have HR5 := Lib.hid (rangeAt_fr (rangeAt_fr HD3.out.cells (Fr.of_below (S := fun _ => False) b4) id) F5 hg3)
    have HT5 := Lib.hid (there_fr (there_fr HD3.out.there (Fr.of_below (S := fun _ => False) b4) id) F5 hg3)
    have hc5 := obj_pv HD3.out.ok HR5.out
    have hz5 := there_frozen (o := 1664) HT5.out (by decide)
    have HF5 := Lib.hid ((HF3.out.trans (Fr.of_below b4)).transN F5 (fun i hi => .inr (by have := HS3.out; omega)))
    have HO5 := Lib.hid O5
    clear O5 F5 hpv
    go_wp2_with fail
    go_ret
    refine ⟨rfl, .slice ao5 (notAt (a : Int) d.p).length cap5, ?_, HF5.out.trans (Fr.cell (w := w5) ⟨g, 1664, none⟩ _), fun b hb => by have := (HO5.out.lt b hb).1; have := HS3.out; omega⟩
    have hna : notAt (a : Int) d.p = (D.damage d a x).p := by
      unfold notAt D.damage
      apply List.filter_congr
      intro v _
      by_cases hv : v.1 = a
      · simp [hv]
      · simp [hv]; omega
    have hdk : D.damage d a x = { ({ d with l := d.l.set a x } : D.Dk) with p := notAt (a : Int) d.p } := by rw [hna]; rfl
    rw [hdk]
    refine IsDisk.setPv (d := { d with l := d.l.set a x }) HD3.out.ge (Nat.lt_of_lt_of_le hg0 HF5.out.size) HD3.out.ok HR5.out HT5.out ?_ ?_ ?_
    · refine ⟨HO5.out.1, ?_⟩
      rcases HO5.out.2 with h1 | ⟨b, c, cur, e1, h2, h3⟩
      · exact .inl h1
      · exact .inr ⟨b, c, cur, e1, by have := HS3.out; omega, h3⟩
    · intro e1
      have := (HO5.out.lt g e1).1
      omega
    · rw [← hdk]
      exact D.damage_ok HD2.out.ok HL.out HX.out
end Go.Proofs.Ytggljcdkiaggeaa
