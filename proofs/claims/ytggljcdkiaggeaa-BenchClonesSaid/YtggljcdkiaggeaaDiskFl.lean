/- The walk of disk's Flush. -/
import Derived.Test.YtggljcdkiaggeaaDiskRead
import Derived.Test.YtggljcdkiaggeaaDiskB
import Derived.Deep.RegionHeld3
import Derived.Deep.DrawnRows
namespace Go.Proofs.Ytggljcdkiaggeaa
open Go.RowKit
set_option linter.unusedVariables false
set_option linter.unusedSimpArgs false
set_option maxRecDepth 100000
set_option maxHeartbeats 1000000
attribute [local go_sem ↓] Go.wp_at_zero Go.wp_at_succ

def dkN (d : D.Dk) (k : Nat) : D.Dk := { d with l := D.apply d.l (d.p.take k) }
theorem dkN_zero (d : D.Dk) : dkN d 0 = d := rfl
theorem dkN_succ {d : D.Dk} {k : Nat} {v : Nat × List Nat} (h : d.p[k]? = some v) : { dkN d k with l := (dkN d k).l.set v.1 v.2 } = dkN d (k + 1) := by
  unfold dkN D.apply
  rw [take_succ_get h, List.foldl_append]
  rfl
theorem dkN_end (d : D.Dk) : { dkN d d.p.length with p := [] } = D.flush d := by
  unfold dkN D.flush
  rw [List.take_length]
theorem flush_any (w : World) (base g : Nat) (pv : Value) (d : D.Dk) (h : IsDisk w base g pv d) (hf : d.f = false) :
    Calls Try.prog 18 #[.pointer (some ⟨g, 0, none⟩)] w fun e w' => e = .returned (.int .i64 0) ∧ IsDisk w' base g (.slice none 0 0) (D.flush d) ∧ Fr (fun b => b = g) w w' := by
  obtain ⟨hz82, hi82⟩ := zero_of_info write_info
  have hy := (zero_of_info sec_info).2
  have hp := h.pv_cell
  have hfc := h.f_cell
  rw [hf] at hfc
  obtain ⟨Z2, hZ2⟩ : ∃ Z2, Z2 = (wcells (0, List.replicate 32 0)).toArray := ⟨_, rfl⟩
  have HZS2 : Hid (Z2.size = 33) := by show Z2.size = 33; rw [hZ2]; rfl
  rw [← hZ2] at hz82
  clear hZ2
  have HI2 := Lib.hid hi82
  have HI := Lib.hid hy
  clear hi82 hy
  obtain ⟨ao, cap, rfl, hq1, hq2⟩ := h.pshape
  have HH := Lib.hid h
  have h0 := h
  clear h
  go_enter Try.func18, Try.ntmps18
  go_wp2
  go_loopw [14] (fun i w' => ∃ k : Nat, k ≤ d.p.length ∧ i = .int .i64 k ∧ Hid (IsDisk w' base g (.slice ao d.p.length cap) (dkN d k)) ∧ Hid (Fr (fun b => b = g) w w')) (fun i _ => d.p.length - (intOf i).toNat)
  case atStart => exact ⟨0, Nat.zero_le _, rfl, Lib.hid h0, Lib.hid (Fr.refl _ _)⟩
  case round =>
    obtain ⟨k, hk, rfl, hD, hF⟩ := hrel
    by_cases hlt : k < d.p.length
    · obtain ⟨v, hv⟩ : ∃ v, d.p[k]? = some v := ⟨_, List.getElem?_eq_getElem hlt⟩
      obtain ⟨b, rfl, hb1, hb2, hb3, hb4, hb5⟩ := hD.out.pend_at hv
      have HP := Lib.hid hb2
      have HWL := Lib.hid (wcells_len hb3)
      have HWS : Hid ((wcells v).toArray.size = 33) := by show (wcells v).toArray.size = 33; rw [List.size_toArray]; exact HWL.out
      have HN := Lib.hid (dkN_succ hv)
      have hgl : g < wr.heap.size := hD.out.lt
      obtain ⟨W2, hW2⟩ : ∃ W2, W2 = wr.alloc (.cells (wcells v).toArray 82) := ⟨_, rfl⟩
      have HC0 : Hid (W2.cell? ⟨wr.heap.size, 0, none⟩ = some (.int .i64 (v.1 : Nat))) := by
        show W2.cell? _ = _
        rw [hW2, cell_of_row _ _ 0 _ _ _ (heap_alloc_new wr _)]; rfl
      have HC1 : Hid (W2.rangeAt wr.heap.size 1 (v.2.map u8v)) := by
        rw [hW2]
        intro j u hu
        rw [cell_of_row _ _ _ _ _ _ (heap_alloc_new wr _), Nat.add_comm 1 j]
        simpa [wcells] using hu
      have HDD : Hid (IsDisk W2 base g (.slice (some ⟨b, 0, none⟩) d.p.length cap) (dkN d k)) := by rw [hW2]; exact hD.out.up (belA1 (belR wr))
      have HT : Hid (W2.there g (v.1 * 32) 32) := HDD.out.sec_there hb4
      have HFF : Hid (Fr (fun b => b = g) w W2) := by rw [hW2]; exact hF.out.trans (Fr.alloc _ _)
      have HV3 := Lib.hid hb3
      have HV5 := Lib.hid hb5
      have HVL : Hid ((v.2.map u8v).length = 32) := by show (v.2.map u8v).length = 32; rw [List.length_map]; exact hb3
      have HW2 := Lib.hid hW2
      clear hv hb2 hb5 hb1 hb3 hW2
      go_wp2_with (first
          | (refine wpList_load_mid rfl 82 _ rfl b (k * 33) rfl (wcells v) _ HP.out Try.underlying82 rfl (by rw [HWL.out]; exact HI2.out) ?_)
          | (refine wpList_store_new rfl 82 _ _ rfl wr.heap.size wr rfl Z2 (wcells v).toArray rfl rfl rfl (by rw [HWS.out]; exact HI2.out) (by rw [HZS2.out, HWS.out]) (all_oneCell_toArray (wcells_one v)) ?_)
          | fail)
      rw [← HW2.out]
      have hb40 : (0 : Int) ≤ (v.1 : Int) := by omega
      have hb41 : (v.1 : Int) < 52 := by omega
      have hu76 := Try.underlying76
      have hy1 := HI.out
      have hy2 : (Try.prog.info? 76).map (·.size) = some (v.2.map u8v).length := by rw [HVL.out]; exact HI.out
      have hl1 := HVL.out
      have hon := u8v_one v.2
      go_region_held3 (fun w' => w'.cell? ⟨wr.heap.size, 0, none⟩ = some (.int .i64 (v.1 : Nat)) ∧ w'.rangeAt wr.heap.size 1 (v.2.map u8v) ∧ w'.there g (v.1 * 32) 32)
        ((go_split_ands; (try refine ⟨?_, ?_, ?_⟩) <;> first | assumption | (refine cell_cells ?_ ?_ <;> first | assumption | omega) | (refine rangeAt_cells ?_ ?_ <;> first | assumption | omega) | (apply World.there_setCells; assumption)))
        (fail)
      all_goals
        go_wp2
        go_roundw
        case rel =>
          refine ⟨k + 1, by omega, by go_num, Lib.hid ?_, Lib.hid ?_⟩
          · rw [← HN.out]
            exact (HDD.out.up (belDr (belR _))).setSec hb4 HV3.out HV5.out
          · exact (HFF.out.trans (Fr.drew _)).trans (Fr.cells _ _ _ _)
        case measure => simp [intOf]; omega
    · have hke : k = d.p.length := by omega
      subst hke
      have hD1 := hD.out
      have hE : Hid (IsDisk (wr.setCell ⟨g, 1664, none⟩ (.slice none 0 0)) base g (.slice none 0 0) (D.flush d)) := by
        have := hD1.clearPv
        rw [dkN_end] at this
        exact this
      have hpc := hD1.pv_cell
      have hzf : wr.frozen? ⟨g, 1664, none⟩ = false := by
        have := (hD1.there 1664 (by decide)).2
        rwa [Nat.zero_add] at this
      clear hD1
      go_wp2
      go_ret
      exact ⟨rfl, hE.out, hF.out.trans (Fr.cell (w := wr) ⟨g, 1664, none⟩ _)⟩
theorem flush_no (w : World) (base g : Nat) (pv : Value) (d : D.Dk) (h : IsDisk w base g pv d) (hf : d.f = true) :
    Calls Try.prog 18 #[.pointer (some ⟨g, 0, none⟩)] w fun e w' => e = .returned (.int .i64 5) ∧ w = w' := by
  have hfc := h.f_cell
  rw [hf] at hfc
  clear h
  go_enter Try.func18, Try.ntmps18
  go_wp2
  go_ret
  exact ⟨rfl, rfl⟩
end Go.Proofs.Ytggljcdkiaggeaa
