/- Merged: DiskCr, DiskFl, DiskR, DiskFa. -/
import Derived.Test.YtenjpldinnbcbaaDiskB
import Derived.Test.YtenjpldinnbcbaaOpen
import Derived.Deep.RegionHeld3
import Derived.Deep.DrawnRows
/- The walk of disk's Crash. -/

namespace Go.Proofs.Ytenjpldinnbcbaa
open Go.RowKit
set_option linter.unusedVariables false
set_option linter.unusedSimpArgs false
set_option maxRecDepth 100000
set_option maxHeartbeats 1000000
attribute [local go_sem ↓] Go.wp_at_zero Go.wp_at_succ

theorem kept_succ : ∀ (p : List (Nat × List Nat)) (ks : List Bool) (k : Nat) (v : Nat × List Nat), p[k]? = some v → D.kept (p.take (k + 1)) ks = D.kept (p.take k) ks ++ (if ks[k]? = some true then [v] else [])
  | [], _, k, v, h => by simp at h
  | w :: p, [], k, v, h => by cases k <;> simp [D.kept]
  | w :: p, b :: ks, 0, v, h => by
    simp at h
    subst h
    cases b <;> simp [D.kept]
  | w :: p, b :: ks, k + 1, v, h => by
    have ih := kept_succ p ks k v (by simpa using h)
    rw [List.take_succ_cons, List.take_succ_cons]
    unfold D.kept
    rw [ih]
    cases b <;> simp
def dkC (d : D.Dk) (ks : List Bool) (k : Nat) : D.Dk := { d with l := D.apply d.l (D.kept (d.p.take k) ks) }
theorem dkC_zero (d : D.Dk) (ks : List Bool) : dkC d ks 0 = d := rfl
theorem dkC_yes {d : D.Dk} {ks : List Bool} {k : Nat} {v : Nat × List Nat} (h : d.p[k]? = some v) (hk : ks[k]? = some true) : { dkC d ks k with l := (dkC d ks k).l.set v.1 v.2 } = dkC d ks (k + 1) := by
  unfold dkC D.apply
  rw [kept_succ _ _ _ _ h, if_pos hk, List.foldl_append]
  rfl
theorem dkC_no {d : D.Dk} {ks : List Bool} {k : Nat} {v : Nat × List Nat} (h : d.p[k]? = some v) (hk : ks[k]? ≠ some true) : dkC d ks k = dkC d ks (k + 1) := by
  unfold dkC
  rw [kept_succ _ _ _ _ h, if_neg hk, List.append_nil]
theorem dkC_end (d : D.Dk) (ks : List Bool) : { dkC d ks d.p.length with p := [] } = D.crash d ks := by
  unfold dkC D.crash
  rw [List.take_length]
theorem Bools.get {w : World} {ao : Option Addr} {n cap : Nat} {l : List Bool} (h : Bools w (.slice ao n cap) l) {k : Nat} (hk : k < n) :
    ∃ b off x, ao = some ⟨b, off, none⟩ ∧ w.cell? ⟨b, off + k, none⟩ = some (.bool x) ∧ Hid (l[k]? = some x) := by
  obtain ⟨ao', cap', e, h1, h2, h0, hA⟩ := h
  cases e
  obtain ⟨b, off, c, rfl, hc, hk2⟩ := hA.cell (k := k) (by simpa using hk)
  rw [List.getElem?_map, List.getElem?_eq_getElem hk] at hk2
  simp only [Option.map_some, Option.some.injEq] at hk2
  exact ⟨b, off, l[k], rfl, by rw [hc, ← hk2]; rfl, List.getElem?_eq_getElem hk⟩
theorem Bools.shape {w : World} {v : Value} {l : List Bool} (h : Bools w v l) : ∃ ao cap, v = .slice ao l.length cap ∧ l.length ≤ cap ∧ cap ≤ 9223372036854775807 := by
  obtain ⟨ao, cap, rfl, h1, h2, _⟩ := h
  exact ⟨ao, cap, rfl, h1, h2⟩
theorem Bools.fr {S : Nat → Prop} {w w' : World} {v : Value} {l : List Bool} (h : Bools w v l) (k : Fr S w w') (hb : ∀ g, v.ownBlock = some g → ¬ S g) : Bools w' v l := by
  obtain ⟨ao, cap, rfl, h1, h2, h0, h4⟩ := h
  refine ⟨ao, cap, rfl, h1, h2, h0, ?_⟩
  rcases h4 with h4 | ⟨b, off, rfl, hlt, hc⟩
  · exact .inl h4
  · exact .inr ⟨b, off, rfl, Nat.lt_of_lt_of_le hlt k.size, fun i hi => by rw [World.cell?_of_block (k.block b hlt (hb b rfl))]; exact hc i hi⟩
end Go.Proofs.Ytenjpldinnbcbaa
/- The walk of disk's Flush. -/

namespace Go.Proofs.Ytenjpldinnbcbaa
open Go.RowKit
set_option linter.unusedVariables false
set_option linter.unusedSimpArgs false
set_option maxRecDepth 100000
set_option maxHeartbeats 1000000
attribute [local go_sem ↓] Go.wp_at_zero Go.wp_at_succ

def dkN (d : D.Dk) (k : Nat) : D.Dk := { d with l := D.apply d.l (d.p.take k) }
theorem dkN_zero (d : D.Dk) : dkN d 0 = d := rfl
theorem dkN_succ {d : D.Dk} {k : Nat} {v : Nat × List Nat} (h : d.p[k]? = some v) : { dkN d k with l := (dkN d k).l.set v.1 v.2 } = dkN d (k + 1) := by
  unfold dkN D.apply
  rw [take_succ_get h, List.foldl_append]
  rfl
theorem dkN_end (d : D.Dk) : { dkN d d.p.length with p := [] } = D.flush d := by
  unfold dkN D.flush
  rw [List.take_length]
theorem flush_any (w : World) (base g : Nat) (pv : Value) (d : D.Dk) (h : IsDisk w base g pv d) (hf : d.f = false) :
    Calls Try.prog 96 #[.pointer (some ⟨g, 0, none⟩)] w fun e w' => e = .returned (.int .i64 0) ∧ IsDisk w' base g (.slice none 0 0) (D.flush d) ∧ Fr (fun b => b = g) w w' := by
  obtain ⟨hz82, hi82⟩ := zero_of_info write_info
  have hy := (zero_of_info sec_info).2
  have hp := h.pv_cell
  have hfc := h.f_cell
  rw [hf] at hfc
  obtain ⟨Z2, hZ2⟩ : ∃ Z2, Z2 = (wcells (0, List.replicate 32 0)).toArray := ⟨_, rfl⟩
  have HZS2 : Hid (Z2.size = 33) := by show Z2.size = 33; rw [hZ2]; rfl
  rw [← hZ2] at hz82
  clear hZ2
  have HI2 := Lib.hid hi82
  have HI := Lib.hid hy
  clear hi82 hy
  obtain ⟨ao, cap, rfl, hq1, hq2⟩ := h.pshape
  have HH := Lib.hid h
  have h0 := h
  clear h
  go_enter Try.func96, Try.ntmps96
  go_wp2
  go_loopw [14] (fun i w' => ∃ k : Nat, k ≤ d.p.length ∧ i = .int .i64 k ∧ Hid (IsDisk w' base g (.slice ao d.p.length cap) (dkN d k)) ∧ Hid (Fr (fun b => b = g) w w')) (fun i _ => d.p.length - (intOf i).toNat)
  case atStart => exact ⟨0, Nat.zero_le _, rfl, Lib.hid h0, Lib.hid (Fr.refl _ _)⟩
  case round =>
    obtain ⟨k, hk, rfl, hD, hF⟩ := hrel
    by_cases hlt : k < d.p.length
    · obtain ⟨v, hv⟩ : ∃ v, d.p[k]? = some v := ⟨_, List.getElem?_eq_getElem hlt⟩
      obtain ⟨b, rfl, hb1, hb2, hb3, hb4, hb5⟩ := hD.out.pend_at hv
      have HP := Lib.hid hb2
      have HWL := Lib.hid (wcells_len hb3)
      have HWS : Hid ((wcells v).toArray.size = 33) := by show (wcells v).toArray.size = 33; rw [List.size_toArray]; exact HWL.out
      have HN := Lib.hid (dkN_succ hv)
      have hgl : g < wr.heap.size := hD.out.lt
      obtain ⟨W2, hW2⟩ : ∃ W2, W2 = wr.alloc (.cells (wcells v).toArray 141) := ⟨_, rfl⟩
      have HC0 : Hid (W2.cell? ⟨wr.heap.size, 0, none⟩ = some (.int .i64 (v.1 : Nat))) := by
        show W2.cell? _ = _
        rw [hW2, cell_of_row _ _ 0 _ _ _ (heap_alloc_new wr _)]; rfl
      have HC1 : Hid (W2.rangeAt wr.heap.size 1 (v.2.map u8v)) := by
        rw [hW2]
        intro j u hu
        rw [cell_of_row _ _ _ _ _ _ (heap_alloc_new wr _), Nat.add_comm 1 j]
        simpa [wcells] using hu
      have HDD : Hid (IsDisk W2 base g (.slice (some ⟨b, 0, none⟩) d.p.length cap) (dkN d k)) := by rw [hW2]; exact hD.out.up (belA1 (belR wr))
      have HT : Hid (W2.there g (v.1 * 32) 32) := HDD.out.sec_there hb4
      have HFF : Hid (Fr (fun b => b = g) w W2) := by rw [hW2]; exact hF.out.trans (Fr.alloc _ _)
      have HV3 := Lib.hid hb3
      have HV5 := Lib.hid hb5
      have HVL : Hid ((v.2.map u8v).length = 32) := by show (v.2.map u8v).length = 32; rw [List.length_map]; exact hb3
      have HW2 := Lib.hid hW2
      clear hv hb2 hb5 hb1 hb3 hW2
      go_wp2_with (first
          | (refine wpList_load_mid rfl 141 _ rfl b (k * 33) rfl (wcells v) _ HP.out Try.underlying141 rfl (by rw [HWL.out]; exact HI2.out) ?_)
          | (refine wpList_store_new rfl 141 _ _ rfl wr.heap.size wr rfl Z2 (wcells v).toArray rfl rfl rfl (by rw [HWS.out]; exact HI2.out) (by rw [HZS2.out, HWS.out]) (all_oneCell_toArray (wcells_one v)) ?_)
          | fail)
      rw [← HW2.out]
      have hb40 : (0 : Int) ≤ (v.1 : Int) := by omega
      have hb41 : (v.1 : Int) < 52 := by omega
      have hu76 := Try.underlying131
      have hy1 := HI.out
      have hy2 : (Try.prog.info? 131).map (·.size) = some (v.2.map u8v).length := by rw [HVL.out]; exact HI.out
      have hl1 := HVL.out
      have hon := u8v_one v.2
      go_region_held3 (fun w' => w'.cell? ⟨wr.heap.size, 0, none⟩ = some (.int .i64 (v.1 : Nat)) ∧ w'.rangeAt wr.heap.size 1 (v.2.map u8v) ∧ w'.there g (v.1 * 32) 32)
        ((go_split_ands; (try refine ⟨?_, ?_, ?_⟩) <;> first | assumption | (refine cell_cells ?_ ?_ <;> first | assumption | omega) | (refine rangeAt_cells ?_ ?_ <;> first | assumption | omega) | (apply World.there_setCells; assumption)))
        (fail)
      all_goals
        go_wp2
        go_roundw
        case rel =>
          refine ⟨k + 1, by omega, by go_num, Lib.hid ?_, Lib.hid ?_⟩
          · rw [← HN.out]
            exact (HDD.out.up (belDr (belR _))).setSec hb4 HV3.out HV5.out
          · exact (HFF.out.trans (Fr.drew _)).trans (Fr.cells _ _ _ _)
        case measure => simp [intOf]; omega
    · have hke : k = d.p.length := by omega
      subst hke
      have hD1 := hD.out
      have hE : Hid (IsDisk (wr.setCell ⟨g, 1664, none⟩ (.slice none 0 0)) base g (.slice none 0 0) (D.flush d)) := by
        have := hD1.clearPv
        rw [dkN_end] at this
        exact this
      have hpc := hD1.pv_cell
      have hzf : wr.frozen? ⟨g, 1664, none⟩ = false := by
        have := (hD1.there 1664 (by decide)).2
        rwa [Nat.zero_add] at this
      clear hD1
      go_wp2
      go_ret
      exact ⟨rfl, hE.out, hF.out.trans (Fr.cell (w := wr) ⟨g, 1664, none⟩ _)⟩
theorem flush_no (w : World) (base g : Nat) (pv : Value) (d : D.Dk) (h : IsDisk w base g pv d) (hf : d.f = true) :
    Calls Try.prog 96 #[.pointer (some ⟨g, 0, none⟩)] w fun e w' => e = .returned (.int .i64 5) ∧ w = w' := by
  have hfc := h.f_cell
  rw [hf] at hfc
  clear h
  go_enter Try.func96, Try.ntmps96
  go_wp2
  go_ret
  exact ⟨rfl, rfl⟩
end Go.Proofs.Ytenjpldinnbcbaa
/- The walk of disk.Read where nothing stands against it. -/

namespace Go.Proofs.Ytenjpldinnbcbaa
open Go.RowKit
set_option linter.unusedVariables false
set_option linter.unusedSimpArgs false
set_option maxRecDepth 100000
set_option maxHeartbeats 1000000

def lookN (d : D.Dk) (a k : Nat) : List Nat := (d.p.take k).foldl (fun b w => if w.1 = a then w.2 else b) (d.l.getD a [])
theorem lookN_zero (d : D.Dk) (a : Nat) : lookN d a 0 = d.l.getD a [] := rfl
theorem lookN_end (d : D.Dk) (a : Nat) : lookN d a d.p.length = D.look d a := by unfold lookN D.look; rw [List.take_length]
theorem lookN_succ {d : D.Dk} {a k : Nat} {v : Nat × List Nat} (h : d.p[k]? = some v) : lookN d a (k + 1) = if v.1 = a then v.2 else lookN d a k := by
  unfold lookN
  rw [take_succ_get h, List.foldl_append]
  rfl
theorem lookN_len {d : D.Dk} (h : D.Ok d) {a : Nat} (ha : a < 52) (k : Nat) : (lookN d a k).length = 32 := by
  have h2 : D.Ok { d with p := d.p.take k } := ⟨h.len, h.sec, h.byt, fun w hw => h.pat w (List.mem_of_mem_take hw), fun w hw => h.psec w (List.mem_of_mem_take hw), fun w hw => h.pbyt w (List.mem_of_mem_take hw)⟩
  exact (D.look_ok h2 ha).1
theorem read_yes (w : World) (base g : Nat) (pv : Value) (d : D.Dk) (a : Nat) (h : IsDisk w base g pv d) (hf : d.f = false) (ha : a < 52) :
    Calls Try.prog 65 #[.pointer (some ⟨g, 0, none⟩), .int .i64 a] w fun e w' => ∃ v, e = .returned (.tuple #[v, .int .i64 0]) ∧ Own w' w.heap.size v (D.look d a) ∧ Below w.heap.size w w' := by
  have hc := may_any w base g pv d a h
  have hm : D.may d a = 0 := by
    unfold D.may
    rw [hf, if_neg (by decide), if_neg (by omega)]
  rw [hm] at hc
  have HC := Lib.hid hc
  clear hc hm
  obtain ⟨hz76, hi76⟩ := zero_of_info sec_info
  obtain ⟨hz82, hi82⟩ := zero_of_info write_info
  have hp := h.pv_cell
  have HR := Lib.hid (h.sector ha)
  have hp1 : (w.alloc (.cells ((lookN d a 0).map u8v).toArray 131)).cell? ⟨g, 1664, none⟩ = some pv := cell_fr hp (Fr.alloc (S := fun _ => False) w _) id
  obtain ⟨Z, hZ⟩ : ∃ Z, Z = (List.replicate 32 (u8v 0)).toArray := ⟨_, rfl⟩
  have HZS : Hid (Z.size = 32) := by show Z.size = 32; rw [hZ]; rfl
  rw [← hZ] at hz76
  clear hZ
  obtain ⟨Z2, hZ2⟩ : ∃ Z2, Z2 = (wcells (0, List.replicate 32 0)).toArray := ⟨_, rfl⟩
  have HZS2 : Hid (Z2.size = 33) := by show Z2.size = 33; rw [hZ2]; rfl
  rw [← hZ2] at hz82
  clear hZ2
  have HI := Lib.hid hi76
  have HI2 := Lib.hid hi82
  have hL : ∀ k, (lookN d a k).length = 32 := lookN_len h.ok ha
  have HL := Lib.hid hL
  clear hi76 hi82 hL
  obtain ⟨ao, cap, rfl, hq1, hq2⟩ := h.pshape
  have HH := Lib.hid h
  clear h
  go_enter Try.func65, Try.ntmps65
  go_wp2_with fail
  refine Calls.mono HC.out ?_
  rintro e w1 ⟨rfl, rfl⟩
  go_wp2_with (first
    | (refine wpList_load_mid rfl 131 _ rfl g (a * 32) rfl ((lookN d a 0).map u8v) _ HR.out Try.underlying131 rfl (by rw [List.length_map, HL.out]; exact HI.out) ?_)
    | (refine wpList_store_new rfl 131 _ _ rfl w.heap.size w rfl Z ((lookN d a 0).map u8v).toArray rfl rfl rfl (by rw [List.size_toArray, List.length_map, HL.out]; exact HI.out) (by rw [HZS.out, List.size_toArray, List.length_map, HL.out]) (all_oneCell_toArray (u8v_one _)) ?_)
    | fail)
  clear hp1 hp
  go_loopw [27] (fun i w' => ∃ k : Nat, k ≤ d.p.length ∧ i = .int .i64 k ∧ Hid (Box w' w.heap.size ((lookN d a k).map u8v)) ∧ Below w.heap.size w w' ∧ w.heap.size < w'.heap.size) (fun i _ => d.p.length - (intOf i).toNat)
  case atStart => exact ⟨0, Nat.zero_le _, rfl, Lib.hid (Box.new w _ _), belA1 (belR w), by simp⟩
  case round =>
    obtain ⟨k, hk, rfl, hB, hW, hsz⟩ := hrel
    by_cases hlt : k < d.p.length
    · obtain ⟨v, hv⟩ : ∃ v, d.p[k]? = some v := ⟨_, List.getElem?_eq_getElem hlt⟩
      obtain ⟨b, rfl, hb1, hb2, hb3, hb4, hb5⟩ := HH.out.pend_at hv
      have HP : Hid (wr.rangeAt b (k * 33) (wcells v)) := Lib.hid (rangeAt_fr hb2 (Fr.of_below (S := fun _ => False) hW) id)
      have hwl := wcells_len hb3
      have HWL := Lib.hid hwl
      have HN : Hid (lookN d a (k + 1) = if v.1 = a then v.2 else lookN d a k) := lookN_succ hv
      have hcell : (wr.alloc (.cells (wcells v).toArray 141)).cell? ⟨wr.heap.size, 0, none⟩ = some (.int .i64 (v.1 : Nat)) := by
        rw [cell_of_row _ _ 0 _ _ _ (heap_alloc_new wr _)]; rfl
      have HB2 : Hid (Box (wr.alloc (.cells (wcells v).toArray 141)) w.heap.size ((lookN d a k).map u8v)) := hB.out.fr (Fr.alloc (S := fun _ => False) wr _) id
      have HV2 : Hid ((wr.alloc (.cells (wcells v).toArray 141)).rangeAt wr.heap.size 1 (v.2.map u8v)) := fun j u hu => by
        rw [cell_of_row _ _ _ _ _ _ (heap_alloc_new wr _), Nat.add_comm 1 j]
        simpa [wcells] using hu
      have HV3 := Lib.hid hb3
      have HVS : Hid ((v.2.map u8v).toArray.size = 32) := map_size hb3
      have HTH : Hid ((wr.alloc (.cells (wcells v).toArray 141)).there w.heap.size 0 32) := by
        have := HB2.out.there
        rw [List.length_map, HL.out] at this
        exact this
      clear hwl hv hb2 hb5 hb1 hb3
      by_cases heq : v.1 = a
      · have hbb : ((v.1 : Int) == (a : Int)) = true := by rw [heq]; simp
        have HE := Lib.hid heq
        clear heq
        go_wp2_with (first
          | (refine wpList_load_mid rfl 141 _ rfl b (k * 33) rfl (wcells v) _ HP.out Try.underlying141 rfl (by rw [HWL.out]; exact HI2.out) ?_)
          | (refine wpList_store_new rfl 141 _ _ rfl wr.heap.size wr rfl Z2 (wcells v).toArray rfl rfl rfl (by rw [List.size_toArray, HWL.out]; exact HI2.out) (by rw [HZS2.out, List.size_toArray, HWL.out]) (all_oneCell_toArray (wcells_one v)) ?_)
          | (refine wpList_load_mid rfl 131 _ rfl wr.heap.size 1 rfl (v.2.map u8v) _ HV2.out Try.underlying131 rfl (by rw [List.length_map, HV3.out]; exact HI.out) ?_)
          | (refine wpList_store_mid rfl 131 _ _ rfl w.heap.size 0 (v.2.map u8v).toArray rfl rfl (by rw [HVS.out]; exact HTH.out) (by rw [HVS.out]; exact HI.out) (all_oneCell_toArray (u8v_one _)) ?_)
          | fail)
        go_roundw
        case rel =>
          refine ⟨k + 1, by omega, by go_num, Lib.hid ?_, ?_, ?_⟩
          · rw [HN.out, if_pos HE.out]
            exact HB2.out.store (by simp [HV3.out, HL.out])
          · exact Fr.below (S := fun b => b = w.heap.size) (belAlloc hW _) (Fr.cells _ _ _ _) (by simp; omega) (fun i hi => by omega)
          · have := (Fr.cells (wr.alloc (.cells (wcells v).toArray 141)) w.heap.size 0 (v.2.map u8v)).size
            simp only [World.alloc] at this
            simp only [Array.size_push] at this
            exact Nat.lt_of_lt_of_le (by omega) this
        case measure => simp [intOf]; omega
      · have hbb : ((v.1 : Int) == (a : Int)) = false := by rw [beq_eq_false_iff_ne]; omega
        have HE := Lib.hid heq
        clear heq
        go_wp2_with (first
          | (refine wpList_load_mid rfl 141 _ rfl b (k * 33) rfl (wcells v) _ HP.out Try.underlying141 rfl (by rw [HWL.out]; exact HI2.out) ?_)
          | (refine wpList_store_new rfl 141 _ _ rfl wr.heap.size wr rfl Z2 (wcells v).toArray rfl rfl rfl (by rw [List.size_toArray, HWL.out]; exact HI2.out) (by rw [HZS2.out, List.size_toArray, HWL.out]) (all_oneCell_toArray (wcells_one v)) ?_)
          | fail)
        go_roundw
        case rel =>
          refine ⟨k + 1, by omega, by go_num, Lib.hid ?_, belAlloc hW _, by simp; omega⟩
          rw [HN.out, if_neg HE.out]
          exact HB2.out
        case measure => simp [intOf]; omega
    · have hke : k = d.p.length := by omega
      have HBy : Hid (Byt wr (.slice (some ⟨w.heap.size, 0, none⟩) 32 32) (D.look d a)) := by
        have h1 := hB.out
        rw [hke, lookN_end] at h1
        have h2 := D.look_ok HH.out.ok ha
        exact Byt.mk h2.1.symm (Nat.le_refl _) (by decide) (fun e => by cases e) h2.2 (h1.at hsz)
      have HL2 : Hid ((D.look d a).length = 32) := (D.look_ok HH.out.ok ha).1
      clear hke
      go_wp2_with (refine Calls.mono (clone_bytes _ _ _ HBy.out HL2.out) ?_; rintro e w3 ⟨v3, rfl, hO3, hb3⟩)
      go_ret2
      exact ⟨_, rfl, own_mono hO3 hW.size, belT hW hb3⟩
end Go.Proofs.Ytenjpldinnbcbaa
/- The walk of disk's Fail. -/

namespace Go.Proofs.Ytenjpldinnbcbaa
open Go.RowKit
set_option linter.unusedVariables false
set_option linter.unusedSimpArgs false
set_option maxRecDepth 100000
set_option maxHeartbeats 1000000

theorem built_fail : Try.prog.built 135 [(2, .bool true)] = some (dcells D.fail (.slice none 0 0)).toArray := by kernel_rfl
theorem disk_size : (Try.prog.info? 135).map (·.size) = some 1666 := by kernel_rfl
theorem fail_any (w : World) (base g : Nat) (pv : Value) (d : D.Dk) (h : IsDisk w base g pv d) :
    Calls Try.prog 61 #[.pointer (some ⟨g, 0, none⟩)] w fun e w' => e = .returned (.tuple #[]) ∧ IsDisk w' base g (.slice none 0 0) D.fail ∧ Fr (fun b => b = g) w w' := by
  have hbd := built_fail
  obtain ⟨C, hC⟩ : ∃ C, C = dcells D.fail (.slice none 0 0) := ⟨_, rfl⟩
  have hl : C.length = 1666 := by rw [hC]; decide +kernel
  have h1 : ∀ u ∈ C, u.oneCell' = true := by
    rw [hC]
    unfold dcells
    intro u hu
    rcases List.mem_append.1 hu with h1 | h1
    · exact u8v_one _ u h1
    · cases h1 with
      | head => rfl
      | tail _ h1 => rw [List.mem_singleton.1 h1]; rfl
  rw [← hC] at hbd
  have HS : Hid (C.toArray.size = 1666) := by show C.toArray.size = 1666; rw [List.size_toArray]; exact hl
  have H1 := Lib.hid h1
  have HT := Lib.hid h.there
  have hD : Hid (IsDisk (w.setCells g 0 C) base g (.slice none 0 0) D.fail) := by
    refine ⟨h.ge, Nat.lt_of_lt_of_le h.lt (Fr.cells w g 0 C).size, ?_, World.there_setCells h.there _ _ _, World.ownsRow_nil _ _ _ _, D.fail_ok, by intro e; cases e⟩
    rw [← hC]
    exact World.rangeAt_setCells_same _ _ _ _ (by rw [hl]; exact h.there)
  have HSz := Lib.hid disk_size
  have HB := Lib.hid hbd
  clear h hC hl h1 hbd
  go_enter Try.func61, Try.ntmps61
  go_wp2_with (first
    | (refine wpList_build_as rfl 135 _ rfl C.toArray HB.out ?_)
    | (refine wpList_store_mid rfl 135 _ _ rfl g 0 C.toArray rfl rfl (by rw [HS.out]; exact HT.out) (by rw [HS.out]; exact HSz.out) (all_oneCell_toArray H1.out) ?_)
    | fail)
  go_end0
  exact ⟨rfl, hD.out, Fr.cells _ _ _ _⟩
end Go.Proofs.Ytenjpldinnbcbaa
