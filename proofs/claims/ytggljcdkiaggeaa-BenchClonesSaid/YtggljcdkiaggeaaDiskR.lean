/- The walk of disk.Read where nothing stands against it. -/
import Derived.Test.YtggljcdkiaggeaaDiskRead
import Derived.Test.YtggljcdkiaggeaaDiskB
namespace Go.Proofs.Ytggljcdkiaggeaa
open Go.RowKit
set_option linter.unusedVariables false
set_option linter.unusedSimpArgs false
set_option maxRecDepth 100000
set_option maxHeartbeats 1000000

def lookN (d : D.Dk) (a k : Nat) : List Nat := (d.p.take k).foldl (fun b w => if w.1 = a then w.2 else b) (d.l.getD a [])
theorem lookN_zero (d : D.Dk) (a : Nat) : lookN d a 0 = d.l.getD a [] := rfl
theorem lookN_end (d : D.Dk) (a : Nat) : lookN d a d.p.length = D.look d a := by unfold lookN D.look; rw [List.take_length]
theorem lookN_succ {d : D.Dk} {a k : Nat} {v : Nat × List Nat} (h : d.p[k]? = some v) : lookN d a (k + 1) = if v.1 = a then v.2 else lookN d a k := by
  unfold lookN
  rw [take_succ_get h, List.foldl_append]
  rfl
theorem lookN_len {d : D.Dk} (h : D.Ok d) {a : Nat} (ha : a < 52) (k : Nat) : (lookN d a k).length = 32 := by
  have h2 : D.Ok { d with p := d.p.take k } := ⟨h.len, h.sec, h.byt, fun w hw => h.pat w (List.mem_of_mem_take hw), fun w hw => h.psec w (List.mem_of_mem_take hw), fun w hw => h.pbyt w (List.mem_of_mem_take hw)⟩
  exact (D.look_ok h2 ha).1
theorem read_yes (w : World) (base g : Nat) (pv : Value) (d : D.Dk) (a : Nat) (h : IsDisk w base g pv d) (hf : d.f = false) (ha : a < 52) :
    Calls Try.prog 19 #[.pointer (some ⟨g, 0, none⟩), .int .i64 a] w fun e w' => ∃ v, e = .returned (.tuple #[v, .int .i64 0]) ∧ Own w' w.heap.size v (D.look d a) ∧ Below w.heap.size w w' := by
  have hc := may_any w base g pv d a h
  have hm : D.may d a = 0 := by
    unfold D.may
    rw [hf, if_neg (by decide), if_neg (by omega)]
  rw [hm] at hc
  have HC := Lib.hid hc
  clear hc hm
  obtain ⟨hz76, hi76⟩ := zero_of_info sec_info
  obtain ⟨hz82, hi82⟩ := zero_of_info write_info
  have hp := h.pv_cell
  have HR := Lib.hid (h.sector ha)
  have hp1 : (w.alloc (.cells ((lookN d a 0).map u8v).toArray 76)).cell? ⟨g, 1664, none⟩ = some pv := cell_fr hp (Fr.alloc (S := fun _ => False) w _) id
  obtain ⟨Z, hZ⟩ : ∃ Z, Z = (List.replicate 32 (u8v 0)).toArray := ⟨_, rfl⟩
  have HZS : Hid (Z.size = 32) := by show Z.size = 32; rw [hZ]; rfl
  rw [← hZ] at hz76
  clear hZ
  obtain ⟨Z2, hZ2⟩ : ∃ Z2, Z2 = (wcells (0, List.replicate 32 0)).toArray := ⟨_, rfl⟩
  have HZS2 : Hid (Z2.size = 33) := by show Z2.size = 33; rw [hZ2]; rfl
  rw [← hZ2] at hz82
  clear hZ2
  have HI := Lib.hid hi76
  have HI2 := Lib.hid hi82
  have hL : ∀ k, (lookN d a k).length = 32 := lookN_len h.ok ha
  have HL := Lib.hid hL
  clear hi76 hi82 hL
  obtain ⟨ao, cap, rfl, hq1, hq2⟩ := h.pshape
  have HH := Lib.hid h
  clear h
  go_enter Try.func19, Try.ntmps19
  go_wp2_with fail
  refine Calls.mono HC.out ?_
  rintro e w1 ⟨rfl, rfl⟩
  go_wp2_with (first
    | (refine wpList_load_mid rfl 76 _ rfl g (a * 32) rfl ((lookN d a 0).map u8v) _ HR.out Try.underlying76 rfl (by rw [List.length_map, HL.out]; exact HI.out) ?_)
    | (refine wpList_store_new rfl 76 _ _ rfl w.heap.size w rfl Z ((lookN d a 0).map u8v).toArray rfl rfl rfl (by rw [List.size_toArray, List.length_map, HL.out]; exact HI.out) (by rw [HZS.out, List.size_toArray, List.length_map, HL.out]) (all_oneCell_toArray (u8v_one _)) ?_)
    | fail)
  clear hp1 hp
  go_loopw [27] (fun i w' => ∃ k : Nat, k ≤ d.p.length ∧ i = .int .i64 k ∧ Hid (Box w' w.heap.size ((lookN d a k).map u8v)) ∧ Below w.heap.size w w' ∧ w.heap.size < w'.heap.size) (fun i _ => d.p.length - (intOf i).toNat)
  case atStart => exact ⟨0, Nat.zero_le _, rfl, Lib.hid (Box.new w _ _), belA1 (belR w), by simp⟩
  case round =>
    obtain ⟨k, hk, rfl, hB, hW, hsz⟩ := hrel
    by_cases hlt : k < d.p.length
    · obtain ⟨v, hv⟩ : ∃ v, d.p[k]? = some v := ⟨_, List.getElem?_eq_getElem hlt⟩
      obtain ⟨b, rfl, hb1, hb2, hb3, hb4, hb5⟩ := HH.out.pend_at hv
      have HP : Hid (wr.rangeAt b (k * 33) (wcells v)) := Lib.hid (rangeAt_fr hb2 (Fr.of_below (S := fun _ => False) hW) id)
      have hwl := wcells_len hb3
      have HWL := Lib.hid hwl
      have HN : Hid (lookN d a (k + 1) = if v.1 = a then v.2 else lookN d a k) := lookN_succ hv
      have hcell : (wr.alloc (.cells (wcells v).toArray 82)).cell? ⟨wr.heap.size, 0, none⟩ = some (.int .i64 (v.1 : Nat)) := by
        rw [cell_of_row _ _ 0 _ _ _ (heap_alloc_new wr _)]; rfl
      have HB2 : Hid (Box (wr.alloc (.cells (wcells v).toArray 82)) w.heap.size ((lookN d a k).map u8v)) := hB.out.fr (Fr.alloc (S := fun _ => False) wr _) id
      have HV2 : Hid ((wr.alloc (.cells (wcells v).toArray 82)).rangeAt wr.heap.size 1 (v.2.map u8v)) := fun j u hu => by
        rw [cell_of_row _ _ _ _ _ _ (heap_alloc_new wr _), Nat.add_comm 1 j]
        simpa [wcells] using hu
      have HV3 := Lib.hid hb3
      have HVS : Hid ((v.2.map u8v).toArray.size = 32) := map_size hb3
      have HTH : Hid ((wr.alloc (.cells (wcells v).toArray 82)).there w.heap.size 0 32) := by
        have := HB2.out.there
        rw [List.length_map, HL.out] at this
        exact this
      clear hwl hv hb2 hb5 hb1 hb3
      by_cases heq : v.1 = a
      · have hbb : ((v.1 : Int) == (a : Int)) = true := by rw [heq]; simp
        have HE := Lib.hid heq
        clear heq
        go_wp2_with (first
          | (refine wpList_load_mid rfl 82 _ rfl b (k * 33) rfl (wcells v) _ HP.out Try.underlying82 rfl (by rw [HWL.out]; exact HI2.out) ?_)
          | (refine wpList_store_new rfl 82 _ _ rfl wr.heap.size wr rfl Z2 (wcells v).toArray rfl rfl rfl (by rw [List.size_toArray, HWL.out]; exact HI2.out) (by rw [HZS2.out, List.size_toArray, HWL.out]) (all_oneCell_toArray (wcells_one v)) ?_)
          | (refine wpList_load_mid rfl 76 _ rfl wr.heap.size 1 rfl (v.2.map u8v) _ HV2.out Try.underlying76 rfl (by rw [List.length_map, HV3.out]; exact HI.out) ?_)
          | (refine wpList_store_mid rfl 76 _ _ rfl w.heap.size 0 (v.2.map u8v).toArray rfl rfl (by rw [HVS.out]; exact HTH.out) (by rw [HVS.out]; exact HI.out) (all_oneCell_toArray (u8v_one _)) ?_)
          | fail)
        go_roundw
        case rel =>
          refine ⟨k + 1, by omega, by go_num, Lib.hid ?_, ?_, ?_⟩
          · rw [HN.out, if_pos HE.out]
            exact HB2.out.store (by simp [HV3.out, HL.out])
          · exact Fr.below (S := fun b => b = w.heap.size) (belAlloc hW _) (Fr.cells _ _ _ _) (by simp; omega) (fun i hi => by omega)
          · have := (Fr.cells (wr.alloc (.cells (wcells v).toArray 82)) w.heap.size 0 (v.2.map u8v)).size
            simp only [World.alloc] at this
            simp only [Array.size_push] at this
            exact Nat.lt_of_lt_of_le (by omega) this
        case measure => simp [intOf]; omega
      · have hbb : ((v.1 : Int) == (a : Int)) = false := by rw [beq_eq_false_iff_ne]; omega
        have HE := Lib.hid heq
        clear heq
        go_wp2_with (first
          | (refine wpList_load_mid rfl 82 _ rfl b (k * 33) rfl (wcells v) _ HP.out Try.underlying82 rfl (by rw [HWL.out]; exact HI2.out) ?_)
          | (refine wpList_store_new rfl 82 _ _ rfl wr.heap.size wr rfl Z2 (wcells v).toArray rfl rfl rfl (by rw [List.size_toArray, HWL.out]; exact HI2.out) (by rw [HZS2.out, List.size_toArray, HWL.out]) (all_oneCell_toArray (wcells_one v)) ?_)
          | fail)
        go_roundw
        case rel =>
          refine ⟨k + 1, by omega, by go_num, Lib.hid ?_, belAlloc hW _, by simp; omega⟩
          rw [HN.out, if_neg HE.out]
          exact HB2.out
        case measure => simp [intOf]; omega
    · have hke : k = d.p.length := by omega
      have HBy : Hid (Byt wr (.slice (some ⟨w.heap.size, 0, none⟩) 32 32) (D.look d a)) := by
        have h1 := hB.out
        rw [hke, lookN_end] at h1
        have h2 := D.look_ok HH.out.ok ha
        exact Byt.mk h2.1.symm (Nat.le_refl _) (by decide) (fun e => by cases e) h2.2 (h1.at hsz)
      have HL2 : Hid ((D.look d a).length = 32) := (D.look_ok HH.out.ok ha).1
      clear hke
      go_wp2_with (refine Calls.mono (clone_bytes _ _ _ HBy.out HL2.out) ?_; rintro e w3 ⟨v3, rfl, hO3, hb3⟩)
      go_ret2
      exact ⟨_, rfl, own_mono hO3 hW.size, belT hW hb3⟩
end Go.Proofs.Ytggljcdkiaggeaa
