/- The walk of SuperForms (chapter 9). True at every input. -/
import Derived.Test.YtgnnkglmlopldaaSupOk
import Derived.Test.YtgnnkglmlopldaaPlayG
import Derived.Great.BuildSlice
import Derived.Great.FillDense
namespace Go.Proofs.Ytgnnkglmlopldaa
open Go.RowKit C
set_option linter.unusedVariables false
set_option linter.unusedSimpArgs false
set_option maxRecDepth 100000
set_option maxHeartbeats 16000000

/-- the Supers that may not be -/
def forms (n : Int) : List Sup :=
  [Sup.zero, ⟨1, Geo.zero, Geo.zero, false, 0, 0, 0⟩, ⟨0, ⟨5, 3, 1⟩, Geo.zero, false, 0, 0, 0⟩, ⟨-n, ⟨5, 3, 1⟩, Geo.zero, false, 0, 0, 0⟩, ⟨2147483647 + n, ⟨5, 3, 1⟩, Geo.zero, false, 0, 0, 0⟩,
   ⟨1, ⟨5, 3, 1⟩, ⟨6, 5, 2⟩, false, 0, 0, 0⟩, ⟨1, ⟨5, 3, 1⟩, Geo.zero, true, 0, 0, 0⟩, ⟨1, ⟨5, 3, 1⟩, ⟨5, 3, 1⟩, true, 0, 0, 0⟩, ⟨1, ⟨6, 5, 2⟩, ⟨5, 3, 1⟩, true, 0, 0, 0⟩, ⟨1, ⟨5, 3, 1⟩, Geo.zero, false, 1, 0, 0⟩,
   ⟨1, ⟨5, 3, 1⟩, ⟨6, 5, 2⟩, true, 16 + n, 0, 0⟩, ⟨1, ⟨5, 3, 1⟩, ⟨6, 5, 2⟩, true, -n, 0, 0⟩, ⟨1, ⟨5, 3, 1⟩, Geo.zero, false, 0, 65535 + n, 0⟩, ⟨1, ⟨5, 3, 1⟩, Geo.zero, false, 0, -n, 0⟩, ⟨1, ⟨5, 3, 1⟩, Geo.zero, false, 0, 0, 255 + n⟩, ⟨1, ⟨5, 3, 1⟩, Geo.zero, false, 0, 0, -n⟩]
theorem inB_no {n lo hi : Int} (h : ¬ (lo ≤ n ∧ n ≤ hi)) : inB n lo hi = false := (inB_not _ _ _).2 h
theorem forms_no {n : Int} (h1 : 1 ≤ n) (h2 : n ≤ 1000) : ∀ s ∈ forms n, s.ok = false ∧ s.In := by
  have i5 : (⟨5, 3, 1⟩ : Geo).In := Geo.ok_in rfl
  have i6 : (⟨6, 5, 2⟩ : Geo).In := Geo.ok_in rfl
  have iz := Geo.zero_in
  have bn : i64b (-n) := ⟨by omega, by omega⟩
  have b0 : i64b 0 := ⟨by decide, by decide⟩
  have b1 : i64b 1 := ⟨by decide, by decide⟩
  intro s hs
  simp only [forms, List.mem_cons, List.not_mem_nil, or_false] at hs
  rcases hs with rfl | rfl | rfl | rfl | rfl | rfl | rfl | rfl | rfl | rfl | rfl | rfl | rfl | rfl | rfl | rfl
  · exact ⟨rfl, zero_sin⟩
  · exact ⟨rfl, b1, iz, iz, b0, b0, b0⟩
  · exact ⟨rfl, b0, i5, iz, b0, b0, b0⟩
  · exact ⟨by unfold Sup.ok; rw [inB_no (by dsimp only; omega)]; rfl, bn, i5, iz, b0, b0, b0⟩
  · exact ⟨by unfold Sup.ok; rw [inB_no (by dsimp only; omega)]; rfl, ⟨by dsimp only; omega, by dsimp only; omega⟩, i5, iz, b0, b0, b0⟩
  · exact ⟨rfl, b1, i5, i6, b0, b0, b0⟩
  · exact ⟨rfl, b1, i5, iz, b0, b0, b0⟩
  · exact ⟨rfl, b1, i5, i5, b0, b0, b0⟩
  · exact ⟨rfl, b1, i6, i5, b0, b0, b0⟩
  · exact ⟨rfl, b1, i5, iz, b1, b0, b0⟩
  · exact ⟨by unfold Sup.ok Sup.okRun; rw [inB_no (n := 16 + n) (by omega)]; simp, b1, i5, i6, ⟨by dsimp only; omega, by dsimp only; omega⟩, b0, b0⟩
  · exact ⟨by unfold Sup.ok Sup.okRun; rw [inB_no (n := -n) (by omega)]; simp, b1, i5, i6, bn, b0, b0⟩
  · exact ⟨by unfold Sup.ok; rw [inB_no (n := 65535 + n) (by omega)]; simp, b1, i5, iz, b0, ⟨by dsimp only; omega, by dsimp only; omega⟩, b0⟩
  · exact ⟨by unfold Sup.ok; rw [inB_no (n := -n) (by omega)]; simp, b1, i5, iz, b0, bn, b0⟩
  · exact ⟨by unfold Sup.ok; rw [inB_no (n := 255 + n) (by omega)]; simp, b1, i5, iz, b0, b0, ⟨by dsimp only; omega, by dsimp only; omega⟩⟩
  · exact ⟨by unfold Sup.ok; rw [inB_no (n := -n) (by omega)]; simp, b1, i5, iz, b0, b0, bn⟩
theorem flat11 : ∀ (ls : List Sup) (j : Nat) (s : Sup), ls[j]? = some s → ∀ i v, (sc s)[i]? = some v → (ls.flatMap sc)[j * 11 + i]? = some v
  | [], j, s, hs, i, v, hi => by simp at hs
  | x :: ls, 0, s, hs, i, v, hi => by
    have e : x = s := by simpa using hs
    subst e
    have hlt : i < (sc x).length := (List.getElem?_eq_some_iff.1 hi).1
    rw [List.flatMap_cons, Nat.zero_mul, Nat.zero_add, List.getElem?_append_left hlt]
    exact hi
  | x :: ls, j + 1, s, hs, i, v, hi => by
    have h := flat11 ls j s (by simpa using hs) i v hi
    have hl : (sc x).length = 11 := rfl
    rw [List.flatMap_cons, List.getElem?_append_right (by rw [hl]; omega), hl]
    rw [show (j + 1) * 11 + i - 11 = j * 11 + i by omega]
    exact h
theorem flat_range {W : World} {b : Nat} {ls : List Sup} {t : TypeId} {fr : Nat × Nat} (h : W.heap[b]? = some (.cells (ls.flatMap sc).toArray t fr)) {j : Nat} {s : Sup} (hs : ls[j]? = some s) : W.rangeAt b (j * 11) (sc s) := fun i v hi => by
  rw [cell_of_row W b _ _ _ _ h]
  simpa using flat11 ls j s hs i v hi
theorem super_all : (Try.prog.info? 47).map (fun i => (i.zero, i.size)) = some (some (.agg (sc Sup.zero).toArray), 11) := by kernel_rfl
def form9 : Sup := ⟨16909060, ⟨5, 3, 1⟩, ⟨6, 5, 2⟩, true, 7, 4660, 5⟩
theorem form9_ok : form9.ok = true := by decide
theorem form9_take : form9.enc.take 28 = [87, 83, 85, 80, 1, 2, 3, 4, 5, 3, 1, 6, 5, 2, 1, 7, 18, 52, 5, 0, 0, 0, 0, 0, 0, 0, 0, 0] := by
  rw [form9.enc_take]; rfl
theorem superForms_law (n : Int) (hn : -9223372036854775808 ≤ n ∧ n ≤ 9223372036854775807) (W : World) :
    Calls Try.prog 5 #[.int .i64 n] W fun e W' => e = .returned (.bool true) ∧ Below W.heap.size W W' := by
  have HN := Lib.hid hn
  have he := fun w => sencode_ok form9 w form9_ok
  obtain ⟨l, hl⟩ : ∃ l, l = form9.enc := ⟨_, rfl⟩
  have h28 : Hid (l.take 28 = [87, 83, 85, 80, 1, 2, 3, 4, 5, 3, 1, 6, 5, 2, 1, 7, 18, 52, 5, 0, 0, 0, 0, 0, 0, 0, 0, 0]) := by rw [hl]; exact form9_take
  have h32 : Hid (l.length = 32) := by rw [hl]; exact form9.enc_len
  rw [← hl] at he
  unfold sv form9 at he
  dsimp only at he
  have HE := Lib.hid he
  clear he hl hn
  go_enter Try.func5, Try.ntmps5
  go_wp2_with fail
  refine Calls.mono (HE.out _) ?_
  rintro e w1 ⟨v, rfl, O1, b1⟩
  obtain ⟨ao, cap, rfl, q1, q2⟩ := O1.byt.shapeN h32.out
  have q3 : 28 ≤ cap := by omega
  have ht := O1.byt.takeI (k := 28) (by decide)
  rw [h28.out] at ht
  have HT := Lib.hid ht
  clear ht
  go_wp2_with fail
  refine Calls.mono (same_any _ _ [87, 83, 85, 80, 1, 2, 3, 4, 5, 3, 1, 6, 5, 2, 1, 7, 18, 52, 5, 0, 0, 0, 0, 0, 0, 0, 0, 0] [87, 83, 85, 80, 1, 2, 3, 4, 5, 3, 1, 6, 5, 2, 1, 7, 18, 52, 5, 0, 0, 0, 0, 0, 0, 0, 0, 0] _ (HT.out.up (belA1 (belR _))) (Byt.lit _ _ _ _ (by simp) rfl rfl (by decide) (by decide))) ?_
  rw [decide_eq_true rfl]
  rintro e w2 ⟨rfl, d2⟩
  go_wp2_with fail
  refine Calls.mono (within_ex n 1000 _ (by decide) (by decide) HN.out) ?_
  rintro e wz ⟨k, rfl, hk, rfl⟩
  have b02 := belT b1 (belT (belA1 (belR _)) (d2.below _))
  have bA : Below (W.alloc (.cells #[.int .i64 5, .int .i64 3, .int .i64 1] 45)).heap.size (W.alloc (.cells #[.int .i64 5, .int .i64 3, .int .i64 1] 45)) w2 := belT (belA2 (belR _)) b02
  have bB : Below ((W.alloc (.cells #[.int .i64 5, .int .i64 3, .int .i64 1] 45)).alloc (.cells #[.int .i64 6, .int .i64 5, .int .i64 2] 45)).heap.size ((W.alloc (.cells #[.int .i64 5, .int .i64 3, .int .i64 1] 45)).alloc (.cells #[.int .i64 6, .int .i64 5, .int .i64 2] 45)) w2 := belT (belA1 (belR _)) b02
  have BW : Below W.heap.size W w2 := belT (belA1 (belR _)) bA
  have a0 := box_up bA 0 rfl
  have a1 := box_up bA 1 rfl
  have a2 := box_up bA 2 rfl
  have e0 := box_up2b bB 0 rfl
  have e1 := box_up2b bB 1 rfl
  have e2 := box_up2b bB 2 rfl
  have HBW := Lib.hid BW
  clear b02 bA bB BW b1 d2 O1 q3
  have hsi := super_all
  obtain ⟨ie, hie, hpair⟩ := Option.map_eq_some_iff.1 hsi
  have hz : ie.zero = some (.agg (sc Sup.zero).toArray) := congrArg Prod.fst hpair
  have h11 : ie.size = 11 := congrArg Prod.snd hpair
  have HI := Lib.hid hie
  have HZ := Lib.hid hz
  have H11 := Lib.hid h11
  clear hsi hpair hie hz h11
  go_wp2_with fail
  refine Go.wp_buildSlice 51 47 16 _ rfl ((forms (1 + (k : Int))).flatMap sc).toArray ie _ Try.underlying51 HI.out HZ.out (by rw [H11.out]; decide) (by rw [H11.out]; decide) ?_ ?_
  · have hf := Great.fill_whole (s := 11) (by decide) ((forms (1 + (k : Int))).map sv) ((Array.range (16 * ie.size)).map (((Value.agg (sc Sup.zero).toArray).cells)[· % ((Value.agg (sc Sup.zero).toArray).cells).size]!)) (fun v hv => by obtain ⟨s, _, rfl⟩ := List.mem_map.1 hv; rfl) (by rw [H11.out]; simp [forms])
    rw [H11.out] at *
    refine (congrArg (Instr.fill _ _) (?_ : _ = (((forms (1 + (k : Int))).map sv).zipIdx 0).map fun x => (x.2, x.1))).trans (hf.trans ?_)
    · rw [Array.toList_map]; rfl
    · rw [List.flatMap_map]; rfl
  obtain ⟨wL, hwL⟩ : ∃ wL, wL = w2.alloc (.cells ((forms (1 + (k : Int))).flatMap sc).toArray 47) := ⟨_, rfl⟩
  have hL1 : wL.heap[w2.heap.size]? = some (.cells ((forms (1 + (k : Int))).flatMap sc).toArray 47 (0, 0)) := by rw [hwL]; exact heap_alloc_new w2 _
  have BL : Below w2.heap.size w2 wL := by rw [hwL]; exact belA1 (belR _)
  rw [← hwL]
  have HL1 := Lib.hid hL1
  have HF := Lib.hid (forms_no (n := 1 + (k : Int)) (by omega) (by omega))
  clear hwL hL1
  try simp only [Act.put, List.setIfInBounds_toArray, List.set_cons_zero, List.set_cons_succ]
  go_wp2_with fail
  go_loopw [94] (fun i w' => ∃ j : Nat, j ≤ 16 ∧ i = .int .i64 j ∧ Below wL.heap.size wL w') (fun i _ => 16 - (intOf i).toNat)
  case atStart => exact ⟨0, by decide, rfl, belR _⟩
  case round =>
    obtain ⟨j, hj, rfl, hB⟩ := hrel
    by_cases hlt : j < 16
    · obtain ⟨s, hs⟩ : ∃ s, (forms (1 + (k : Int)))[j]? = some s := ⟨_, List.getElem?_eq_getElem (by simp [forms]; exact hlt)⟩
      obtain ⟨hno, hsin⟩ := HF.out s (List.mem_of_getElem? hs)
      have hr : wr.rangeAt w2.heap.size (j * 11) (sc s) := by
        have h1 := flat_range HL1.out hs
        exact rangeAt_fr h1 (Fr.of_below (S := fun _ => False) hB) id
      have HRG := Lib.hid hr
      have hek := fun w => sencode_no s w hsin hno
      have hck := fun w => scheck_any s w hsin
      rw [Sup.err_no hno] at hck
      have HEK := Lib.hid hek
      have HCK := Lib.hid hck
      clear hs hno hsin hr hek hck
      go_wp2_with (first
        | (refine wpList_load_mid rfl 47 (.tmp 96) rfl w2.heap.size (j * 11) rfl (sc s) _ HRG.out Try.underlying47 rfl (show _ = some 11 from super_info) ?_)
        | (refine wpList_store_new rfl 47 (.tmp 10) (.tmp 97) rfl wr.heap.size wr rfl _ (sc s).toArray rfl rfl rfl (show _ = some 11 from super_info) rfl (sc_one s) ?_; generalize hwN : wr.alloc (.cells (sc s).toArray 47) = wN; have XS : Box wN wr.heap.size (sc s) := (by rw [← hwN]; exact Box.new _ _ _); have bN : Below wr.heap.size wr wN := (by rw [← hwN]; exact belA1 (belR _)); clear hwN; obtain ⟨d0, d1, d2, d3, d4, d5, d6, d7, d8, d9, d10⟩ := XS.cells11)
        | fail)
      refine Calls.mono (HEK.out _) ?_
      rintro e w4 ⟨rfl, b4⟩
      have XS4 := XS.fr (Fr.of_below (S := fun _ => False) b4) id
      clear d0 d1 d2 d3 d4 d5 d6 d7 d8 d9 d10
      obtain ⟨d0, d1, d2, d3, d4, d5, d6, d7, d8, d9, d10⟩ := XS4.cells11
      go_wp2_with fail
      refine Calls.mono (HCK.out _) ?_
      rintro e w5 ⟨rfl, b5⟩
      go_wp2
      go_roundw
      case rel => exact ⟨j + 1, by omega, by go_num, belT hB (belT bN (belT b4 b5))⟩
      case measure => simp [intOf]; omega
    · have b2r := belT BL hB
      have k0 := (b2r.cell (World.block_lt_of_cell? _ _ a0)).trans a0
      have k1 := (b2r.cell (World.block_lt_of_cell? _ _ a1)).trans a1
      have k2 := (b2r.cell (World.block_lt_of_cell? _ _ a2)).trans a2
      have k3 := (b2r.cell (World.block_lt_of_cell? _ _ e0)).trans e0
      have k4 := (b2r.cell (World.block_lt_of_cell? _ _ e1)).trans e1
      have k5 := (b2r.cell (World.block_lt_of_cell? _ _ e2)).trans e2
      have hck := fun w => scheck_any ⟨2147483647, ⟨5, 3, 1⟩, ⟨6, 5, 2⟩, true, 16, 65535, 255⟩ w (Sup.ok_in rfl)
      rw [Sup.err_yes rfl] at hck
      have HCK := Lib.hid hck
      clear hck
      go_wp2_with fail
      refine Calls.mono (HCK.out _) ?_
      rintro e w4 ⟨rfl, b4⟩
      go_wp2_with fail
      refine Calls.mono (wakes9_any _) ?_
      rintro e w5 ⟨rfl, b5⟩
      go_wp2_with fail
      go_ret
      exact ⟨rfl, belT HBW.out (belT b2r (belT b4 b5))⟩
end Go.Proofs.Ytgnnkglmlopldaa
