/- The walk of disk's Crash. -/
import Derived.Test.YtggljcdkiaggeaaDiskRead
import Derived.Test.YtggljcdkiaggeaaDiskB
import Derived.Test.YtggljcdkiaggeaaOpen
import Derived.Deep.RegionHeld3
import Derived.Deep.DrawnRows
namespace Go.Proofs.Ytggljcdkiaggeaa
open Go.RowKit
set_option linter.unusedVariables false
set_option linter.unusedSimpArgs false
set_option maxRecDepth 100000
set_option maxHeartbeats 1000000
attribute [local go_sem ↓] Go.wp_at_zero Go.wp_at_succ

theorem kept_succ : ∀ (p : List (Nat × List Nat)) (ks : List Bool) (k : Nat) (v : Nat × List Nat), p[k]? = some v → D.kept (p.take (k + 1)) ks = D.kept (p.take k) ks ++ (if ks[k]? = some true then [v] else [])
  | [], _, k, v, h => by simp at h
  | w :: p, [], k, v, h => by cases k <;> simp [D.kept]
  | w :: p, b :: ks, 0, v, h => by
    simp at h
    subst h
    cases b <;> simp [D.kept]
  | w :: p, b :: ks, k + 1, v, h => by
    have ih := kept_succ p ks k v (by simpa using h)
    rw [List.take_succ_cons, List.take_succ_cons]
    unfold D.kept
    rw [ih]
    cases b <;> simp
def dkC (d : D.Dk) (ks : List Bool) (k : Nat) : D.Dk := { d with l := D.apply d.l (D.kept (d.p.take k) ks) }
theorem dkC_zero (d : D.Dk) (ks : List Bool) : dkC d ks 0 = d := rfl
theorem dkC_yes {d : D.Dk} {ks : List Bool} {k : Nat} {v : Nat × List Nat} (h : d.p[k]? = some v) (hk : ks[k]? = some true) : { dkC d ks k with l := (dkC d ks k).l.set v.1 v.2 } = dkC d ks (k + 1) := by
  unfold dkC D.apply
  rw [kept_succ _ _ _ _ h, if_pos hk, List.foldl_append]
  rfl
theorem dkC_no {d : D.Dk} {ks : List Bool} {k : Nat} {v : Nat × List Nat} (h : d.p[k]? = some v) (hk : ks[k]? ≠ some true) : dkC d ks k = dkC d ks (k + 1) := by
  unfold dkC
  rw [kept_succ _ _ _ _ h, if_neg hk, List.append_nil]
theorem dkC_end (d : D.Dk) (ks : List Bool) : { dkC d ks d.p.length with p := [] } = D.crash d ks := by
  unfold dkC D.crash
  rw [List.take_length]
theorem Bools.get {w : World} {ao : Option Addr} {n cap : Nat} {l : List Bool} (h : Bools w (.slice ao n cap) l) {k : Nat} (hk : k < n) :
    ∃ b off x, ao = some ⟨b, off, none⟩ ∧ w.cell? ⟨b, off + k, none⟩ = some (.bool x) ∧ Hid (l[k]? = some x) := by
  obtain ⟨ao', cap', e, h1, h2, h0, hA⟩ := h
  cases e
  obtain ⟨b, off, c, rfl, hc, hk2⟩ := hA.cell (k := k) (by simpa using hk)
  rw [List.getElem?_map, List.getElem?_eq_getElem hk] at hk2
  simp only [Option.map_some, Option.some.injEq] at hk2
  exact ⟨b, off, l[k], rfl, by rw [hc, ← hk2]; rfl, List.getElem?_eq_getElem hk⟩
theorem Bools.shape {w : World} {v : Value} {l : List Bool} (h : Bools w v l) : ∃ ao cap, v = .slice ao l.length cap ∧ l.length ≤ cap ∧ cap ≤ 9223372036854775807 := by
  obtain ⟨ao, cap, rfl, h1, h2, _⟩ := h
  exact ⟨ao, cap, rfl, h1, h2⟩
theorem Bools.fr {S : Nat → Prop} {w w' : World} {v : Value} {l : List Bool} (h : Bools w v l) (k : Fr S w w') (hb : ∀ g, v.ownBlock = some g → ¬ S g) : Bools w' v l := by
  obtain ⟨ao, cap, rfl, h1, h2, h0, h4⟩ := h
  refine ⟨ao, cap, rfl, h1, h2, h0, ?_⟩
  rcases h4 with h4 | ⟨b, off, rfl, hlt, hc⟩
  · exact .inl h4
  · exact .inr ⟨b, off, rfl, Nat.lt_of_lt_of_le hlt k.size, fun i hi => by rw [World.cell?_of_block (k.block b hlt (hb b rfl))]; exact hc i hi⟩
theorem crash_any (w : World) (base g : Nat) (pv : Value) (d : D.Dk) (kv : Value) (ks : List Bool) (h : IsDisk w base g pv d) (hks : Bools w kv ks) (hkg : ks ≠ [] → kv.ownBlock ≠ some g) :
    Calls Try.prog 25 #[.pointer (some ⟨g, 0, none⟩), kv] w fun e w' => e = .returned (.tuple #[]) ∧ IsDisk w' base g (.slice none 0 0) (D.crash d ks) ∧ Fr (fun b => b = g) w w' := by
  obtain ⟨hz82, hi82⟩ := zero_of_info write_info
  have hy := (zero_of_info sec_info).2
  have hp := h.pv_cell
  obtain ⟨Z2, hZ2⟩ : ∃ Z2, Z2 = (wcells (0, List.replicate 32 0)).toArray := ⟨_, rfl⟩
  have HZS2 : Hid (Z2.size = 33) := by show Z2.size = 33; rw [hZ2]; rfl
  rw [← hZ2] at hz82
  clear hZ2
  have HI2 := Lib.hid hi82
  have HI := Lib.hid hy
  clear hi82 hy
  obtain ⟨ao, cap, rfl, hq1, hq2⟩ := h.pshape
  obtain ⟨aok, capk, rfl, hr1, hr2⟩ := hks.shape
  have HH := Lib.hid h
  have HK := Lib.hid hks
  have HKG := Lib.hid hkg
  have h0 := h
  clear h hks hkg
  go_enter Try.func25, Try.ntmps25
  go_wp2
  go_loopw [11] (fun i w' => ∃ k : Nat, k ≤ d.p.length ∧ i = .int .i64 k ∧ Hid (IsDisk w' base g (.slice ao d.p.length cap) (dkC d ks k)) ∧ Hid (Fr (fun b => b = g) w w')) (fun i _ => d.p.length - (intOf i).toNat)
  case atStart => exact ⟨0, Nat.zero_le _, rfl, Lib.hid h0, Lib.hid (Fr.refl _ _)⟩
  case round =>
    obtain ⟨k, hk, rfl, hD, hF⟩ := hrel
    have hBk : Bools wr (.slice aok ks.length capk) ks := by
      by_cases hne : ks = []
      · obtain ⟨ao1, cap1, e1, h1, h2, h3, _⟩ := HK.out
        cases e1
        exact ⟨_, _, rfl, h1, h2, h3, .inl (by rw [hne]; rfl)⟩
      · exact HK.out.fr hF.out (fun b hb e => HKG.out hne (by rw [hb, e]))
    by_cases hlt : k < d.p.length
    · obtain ⟨v, hv⟩ : ∃ v, d.p[k]? = some v := ⟨_, List.getElem?_eq_getElem hlt⟩
      obtain ⟨b, rfl, hb1, hb2, hb3, hb4, hb5⟩ := hD.out.pend_at hv
      have HP := Lib.hid hb2
      have HWL := Lib.hid (wcells_len hb3)
      have HWS : Hid ((wcells v).toArray.size = 33) := by show (wcells v).toArray.size = 33; rw [List.size_toArray]; exact HWL.out
      have hgl : g < wr.heap.size := hD.out.lt
      obtain ⟨W2, hW2⟩ : ∃ W2, W2 = wr.alloc (.cells (wcells v).toArray 82) := ⟨_, rfl⟩
      have HC0 : Hid (W2.cell? ⟨wr.heap.size, 0, none⟩ = some (.int .i64 (v.1 : Nat))) := by
        show W2.cell? _ = _
        rw [hW2, cell_of_row _ _ 0 _ _ _ (heap_alloc_new wr _)]; rfl
      have HC1 : Hid (W2.rangeAt wr.heap.size 1 (v.2.map u8v)) := by
        rw [hW2]
        intro j u hu
        rw [cell_of_row _ _ _ _ _ _ (heap_alloc_new wr _), Nat.add_comm 1 j]
        simpa [wcells] using hu
      have HDD : Hid (IsDisk W2 base g (.slice (some ⟨b, 0, none⟩) d.p.length cap) (dkC d ks k)) := by rw [hW2]; exact hD.out.up (belA1 (belR wr))
      have HT : Hid (W2.there g (v.1 * 32) 32) := HDD.out.sec_there hb4
      have HFF : Hid (Fr (fun b => b = g) w W2) := by rw [hW2]; exact hF.out.trans (Fr.alloc _ _)
      have HV3 := Lib.hid hb3
      have HV5 := Lib.hid hb5
      have HV := Lib.hid hv
      have HVL : Hid ((v.2.map u8v).length = 32) := by show (v.2.map u8v).length = 32; rw [List.length_map]; exact hb3
      have HW2 := Lib.hid hW2
      clear hv hb2 hb5 hb1 hb3
      have hb40 : (0 : Int) ≤ (v.1 : Int) := by omega
      have hb41 : (v.1 : Int) < 52 := by omega
      by_cases hkl : k < ks.length
      · obtain ⟨bk, offk, xk, rfl, hxk, hxg⟩ := hBk.get hkl
        have hxk2 : W2.cell? ⟨bk, offk + k, none⟩ = some (.bool xk) := by rw [hW2]; exact cell_fr hxk (Fr.alloc (S := fun _ => False) wr _) id
        rw [hW2] at hxk2
        clear hxk hBk hW2
        cases xk with
        | true =>
          go_wp2_with (first
            | (refine wpList_load_mid rfl 82 _ rfl b (k * 33) rfl (wcells v) _ HP.out Try.underlying82 rfl (by rw [HWL.out]; exact HI2.out) ?_)
            | (refine wpList_store_new rfl 82 _ _ rfl wr.heap.size wr rfl Z2 (wcells v).toArray rfl rfl rfl (by rw [HWS.out]; exact HI2.out) (by rw [HZS2.out, HWS.out]) (all_oneCell_toArray (wcells_one v)) ?_)
            | fail)
          rw [← HW2.out]
          have hu76 := Try.underlying76
          have hy1 := HI.out
          have hy2 : (Try.prog.info? 76).map (·.size) = some (v.2.map u8v).length := by rw [HVL.out]; exact HI.out
          have hl1 := HVL.out
          have hon := u8v_one v.2
          go_region_held3 (fun w' => w'.cell? ⟨wr.heap.size, 0, none⟩ = some (.int .i64 (v.1 : Nat)) ∧ w'.rangeAt wr.heap.size 1 (v.2.map u8v) ∧ w'.there g (v.1 * 32) 32)
            ((go_split_ands; (try refine ⟨?_, ?_, ?_⟩) <;> first | assumption | (refine cell_cells ?_ ?_ <;> first | assumption | omega) | (refine rangeAt_cells ?_ ?_ <;> first | assumption | omega) | (apply World.there_setCells; assumption)))
            (fail)
          all_goals
            go_wp2
            go_roundw
            case rel =>
              refine ⟨k + 1, by omega, by go_num, Lib.hid ?_, Lib.hid ?_⟩
              · rw [← dkC_yes HV.out hxg.out]
                exact (HDD.out.up (belDr (belR _))).setSec hb4 HV3.out HV5.out
              · exact (HFF.out.trans (Fr.drew _)).trans (Fr.cells _ _ _ _)
            case measure => simp [intOf]; omega
        | false =>
          go_wp2_with (first
            | (refine wpList_load_mid rfl 82 _ rfl b (k * 33) rfl (wcells v) _ HP.out Try.underlying82 rfl (by rw [HWL.out]; exact HI2.out) ?_)
            | (refine wpList_store_new rfl 82 _ _ rfl wr.heap.size wr rfl Z2 (wcells v).toArray rfl rfl rfl (by rw [HWS.out]; exact HI2.out) (by rw [HZS2.out, HWS.out]) (all_oneCell_toArray (wcells_one v)) ?_)
            | fail)
          go_roundw
          case rel =>
            rw [← HW2.out]
            refine ⟨k + 1, by omega, by go_num, Lib.hid ?_, Lib.hid HFF.out⟩
            rw [← dkC_no HV.out (by rw [hxg.out]; simp)]
            exact HDD.out
          case measure => simp [intOf]; omega
      · have hkn : Hid (ks[k]? ≠ some true) := by show _ ≠ _; rw [List.getElem?_eq_none (by omega)]; simp
        clear hBk hW2
        go_wp2_with (first
          | (refine wpList_load_mid rfl 82 _ rfl b (k * 33) rfl (wcells v) _ HP.out Try.underlying82 rfl (by rw [HWL.out]; exact HI2.out) ?_)
          | (refine wpList_store_new rfl 82 _ _ rfl wr.heap.size wr rfl Z2 (wcells v).toArray rfl rfl rfl (by rw [HWS.out]; exact HI2.out) (by rw [HZS2.out, HWS.out]) (all_oneCell_toArray (wcells_one v)) ?_)
          | fail)
        go_roundw
        case rel =>
          rw [← HW2.out]
          refine ⟨k + 1, by omega, by go_num, Lib.hid ?_, Lib.hid HFF.out⟩
          rw [← dkC_no HV.out hkn.out]
          exact HDD.out
        case measure => simp [intOf]; omega
    · have hke : k = d.p.length := by omega
      subst hke
      have hD1 := hD.out
      have hE : Hid (IsDisk (wr.setCell ⟨g, 1664, none⟩ (.slice none 0 0)) base g (.slice none 0 0) (D.crash d ks)) := by
        have := hD1.clearPv
        rw [dkC_end] at this
        exact this
      have hpc := hD1.pv_cell
      have hzf : wr.frozen? ⟨g, 1664, none⟩ = false := by
        have := (hD1.there 1664 (by decide)).2
        rwa [Nat.zero_add] at this
      clear hD1 hBk
      go_wp2
      go_end0
      exact ⟨rfl, hE.out, hF.out.trans (Fr.cell (w := wr) ⟨g, 1664, none⟩ _)⟩
end Go.Proofs.Ytggljcdkiaggeaa
