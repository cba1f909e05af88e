/- The walk of slices.DeleteFunc on writes. -/
import Derived.Test.YtggljcdkiaggeaaDiskD
namespace Go.Proofs.Ytggljcdkiaggeaa
open Go.RowKit
set_option linter.unusedVariables false
set_option linter.unusedSimpArgs false
set_option maxRecDepth 100000
set_option maxHeartbeats 1000000

/-- those that are not of the place -/
def notAt (a : Int) (p : List (Nat × List Nat)) : List (Nat × List Nat) := p.filter (fun v => decide ((v.1 : Int) ≠ a))
theorem notAt_id {a : Int} {p : List (Nat × List Nat)} (h : ∀ v ∈ p, (v.1 : Int) ≠ a) : notAt a p = p := by
  unfold notAt
  rw [List.filter_eq_self]
  intro v hv
  exact decide_eq_true (h v hv)
structure DelR (a : Int) (p q : List (Nat × List Nat)) (i j : Nat) : Prop where
  lt : i < j
  le : j ≤ p.length
  len : q.length = p.length
  front : q.take i = notAt a (p.take j)
  back : q.drop j = p.drop j
  sec : ∀ v ∈ q, v.2.length = 32
theorem DelR.keep {a : Int} {p q : List (Nat × List Nat)} {i j : Nat} {v : Nat × List Nat} (h : DelR a p q i j) (hv : p[j]? = some v) (hs : v.2.length = 32) (ha : (v.1 : Int) ≠ a) : DelR a p (q.set i v) (i + 1) (j + 1) := by
  have hj : j < p.length := (List.getElem?_eq_some_iff.1 hv).1
  refine ⟨by have := h.lt; omega, by omega, by rw [List.length_set]; exact h.len, ?_, ?_, ?_⟩
  · have hi : i < q.length := by have := h.lt; have := h.len; omega
    have e1 : (q.set i v)[i]? = some v := by rw [List.getElem?_set_self hi]
    rw [take_succ_get e1, take_succ_get hv]
    have e2 : (q.set i v).take i = q.take i := by rw [List.take_set_of_le (Nat.le_refl _)]
    rw [e2, h.front]
    unfold notAt
    rw [List.filter_append]
    congr 1
    simp [ha]
  · have e : (q.set i v).drop (j + 1) = q.drop (j + 1) := by rw [List.drop_set_of_lt (by have := h.lt; omega)]
    rw [e]
    have := congrArg (List.drop 1) h.back
    rwa [List.drop_drop, List.drop_drop] at this
  · intro u hu
    rcases List.mem_or_eq_of_mem_set hu with h1 | h1
    · exact h.sec u h1
    · rw [h1]; exact hs
theorem DelR.drop {a : Int} {p q : List (Nat × List Nat)} {i j : Nat} {v : Nat × List Nat} (h : DelR a p q i j) (hv : p[j]? = some v) (ha : (v.1 : Int) = a) : DelR a p q i (j + 1) := by
  have hj : j < p.length := (List.getElem?_eq_some_iff.1 hv).1
  refine ⟨by have := h.lt; omega, by omega, h.len, ?_, ?_, h.sec⟩
  · rw [take_succ_get hv, h.front]
    unfold notAt
    rw [List.filter_append]
    simp [ha]
  · have := congrArg (List.drop 1) h.back
    rwa [List.drop_drop, List.drop_drop] at this
theorem DelR.get {a : Int} {p q : List (Nat × List Nat)} {i j : Nat} {v : Nat × List Nat} (h : DelR a p q i j) (hv : p[j]? = some v) : q[j]? = some v := by
  have h1 := congrArg (fun l => l[0]?) h.back
  simp only [List.getElem?_drop, Nat.add_zero] at h1
  rw [h1]; exact hv
theorem DelR.done {a : Int} {p q : List (Nat × List Nat)} {i j : Nat} (h : DelR a p q i j) (hj : j = p.length) : q.take i = notAt a p := by rw [h.front, hj, List.take_length]
theorem DelR.start {a : Int} {p : List (Nat × List Nat)} {k : Nat} (hs : ∀ v ∈ p, v.2.length = 32) (hk : k < p.length) (h1 : ∀ v ∈ p.take k, (v.1 : Int) ≠ a) (h2 : ∀ v, p[k]? = some v → (v.1 : Int) = a) : DelR a p p k (k + 1) := by
  have hv : p[k]? = some p[k] := List.getElem?_eq_getElem hk
  refine ⟨by omega, by omega, rfl, ?_, rfl, hs⟩
  rw [take_succ_get hv]
  have e := notAt_id h1
  unfold notAt at e ⊢
  rw [List.filter_append, e]
  simp [h2 _ hv]
theorem del_any (w : World) (p : List (Nat × List Nat)) (b cap b4 : Nat) (a : Int) (base : Nat) (h : w.ownsRow base 82 33 (.slice (some ⟨b, 0, none⟩) p.length cap) p.length (pcells p)) (hs : ∀ v ∈ p, v.2.length = 32) (hc : w.cell? ⟨b4, 0, none⟩ = some (.int .i64 a)) (hne : b4 ≠ b) (hbase : base ≤ b) :
    Calls Try.prog 57 #[.slice (some ⟨b, 0, none⟩) p.length cap, .func (.func 58) #[] #[.pointer (some ⟨b4, 0, none⟩)]] w fun e w' =>
      ∃ v', e = .returned v' ∧ w'.ownsRow base 82 33 v' (notAt a p).length (pcells (notAt a p)) ∧ Fr (fun x => x = b) w w' := by
  obtain ⟨hz82, hi82⟩ := zero_of_info write_info
  obtain ⟨hrow, hrg, hn1, hn2⟩ := RowAt.of_own h
  have hix := indexf_any w p (some ⟨b, 0, none⟩) cap b4 a hn1 (by simpa [maxLen] using hn2) (fun k v hv => ⟨b, rfl, pcells_range hrg hs hv⟩) hs hc
  have HIX := Lib.hid hix
  have HH := Lib.hid h
  have HS := Lib.hid hs
  have HC := Lib.hid hc
  have HROW := Lib.hid hrow
  have HRG := Lib.hid hrg
  have HN2 := Lib.hid hn2
  have HI := Lib.hid hi82
  have hE := call_dmg1
  have hblt : b < w.heap.size := by obtain ⟨cur, h1, _⟩ := hrow; exact lt_of_block h1
  have hcapI : cap ≤ 9223372036854775807 := by simpa [maxLen] using hn2
  obtain ⟨Z, hZ⟩ : ∃ Z, Z = (wcells (0, List.replicate 32 0)).toArray := ⟨_, rfl⟩
  have HZS : Hid (Z.size = 33) := by show Z.size = 33; rw [hZ]; rfl
  have HZ1 : Hid (∀ u ∈ Z.toList, u.oneCell' = true) := by rw [hZ]; exact wcells_one _
  rw [← hZ] at hz82
  have HZR := Lib.hid hz82
  clear hix h hs hc hrow hrg hn2 hi82 hZ
  go_enter Try.func57, Try.ntmps57
  go_wp2_with fail
  refine Calls.mono HIX.out ?_
  rintro e w1 ⟨r, rfl, hb1, hr⟩
  rcases hr with ⟨rfl, hall⟩ | ⟨k, rfl, hk, hfr, heq⟩
  · have HA := Lib.hid hall
    clear hall
    go_wp2_with fail
    go_ret
    refine ⟨_, rfl, ?_, Fr.of_below hb1⟩
    rw [notAt_id HA.out]
    exact row_up HH.out hb1
  · have HST := Lib.hid (DelR.start HS.out hk hfr heq)
    have hkm : ((k : Int) == -1) = false := by rw [beq_eq_false_iff_ne]; omega
    clear hfr heq
    go_wp2_with fail
    clear hkm
    go_loopw [5, 6] (fun iv jv w' => ∃ (i j : Nat) (q : List (Nat × List Nat)), iv = .int .i64 i ∧ jv = .int .i64 j ∧ i < j ∧ j ≤ p.length ∧ Hid (DelR a p q i j) ∧ Hid (RowAt w' b 82 (cap * 33)) ∧ Hid (w'.rangeAt b 0 (pcells q)) ∧ Hid (Fr (fun x => x = b) w w')) (fun _ jv _ => p.length - (intOf jv).toNat)
    case atStart => exact ⟨k, k + 1, p, rfl, by first | rfl | go_num, by omega, by omega, HST, Lib.hid (HROW.out.fr (Fr.of_below (S := fun _ => False) hb1) id), Lib.hid (rangeAt_fr HRG.out (Fr.of_below (S := fun _ => False) hb1) id), Lib.hid (Fr.of_below hb1)⟩
    case round =>
      obtain ⟨i, j, q, rfl, rfl, hij, hjn, HD, HRW, HRN, HF⟩ := hrel
      have hblr : b < wr.heap.size := Nat.lt_of_lt_of_le hblt HF.out.size
      by_cases hlt : j < p.length
      · obtain ⟨v, hv⟩ : ∃ v, p[j]? = some v := ⟨_, List.getElem?_eq_getElem hlt⟩
        have hv3 : v.2.length = 32 := HS.out v (List.mem_of_getElem? hv)
        have HWL := Lib.hid (wcells_len hv3)
        have HWS : Hid ((wcells v).toArray.size = 33) := by show (wcells v).toArray.size = 33; rw [List.size_toArray]; exact HWL.out
        have HV := Lib.hid hv
        have HV3 := Lib.hid hv3
        have HP : Hid (wr.rangeAt b (j * 33) (wcells v)) := pcells_range HRN.out HD.out.sec (HD.out.get hv)
        obtain ⟨W2, hW2⟩ : ∃ W2, W2 = wr.alloc (.cells (wcells v).toArray 82) := ⟨_, rfl⟩
        have HB2 : Hid (W2.rangeAt wr.heap.size 0 (wcells v)) := by rw [hW2]; exact (Box.new wr (wcells v) _).range
        have HF2 : Hid (Fr (fun x => x = b) wr W2) := by rw [hW2]; exact Fr.alloc _ _
        have HC2 : Hid (W2.cell? ⟨b4, 0, none⟩ = some (.int .i64 a)) := cell_fr (cell_fr HC.out HF.out hne) HF2.out hne
        have HW2 := Lib.hid hW2
        have hs2 : Hid (wr.heap.size < W2.heap.size) := by show _ < _; rw [hW2]; simp
        clear hv hv3 hW2
        go_wp2_with (first
          | (refine wpList_load_mid rfl 82 _ rfl b (j * 33) rfl (wcells v) _ HP.out Try.underlying82 rfl (by rw [HWL.out]; exact HI.out) ?_)
          | (refine wpList_store_new rfl 82 _ _ rfl wr.heap.size wr rfl Z (wcells v).toArray rfl rfl rfl (by rw [HWS.out]; exact HI.out) (by rw [HZS.out, HWS.out]) (all_oneCell_toArray (wcells_one v)) ?_; rw [← HW2.out])
          | (refine wpList_load_mid rfl 82 _ rfl wr.heap.size 0 rfl (wcells v) _ HB2.out Try.underlying82 rfl (by rw [HWL.out]; exact HI.out) ?_)
          | fail)
        refine Calls.mono (dmg1_any W2 v HV3.out b4 a HC2.out) ?_
        rintro e w3 ⟨rfl, hb3⟩
        have HF3 := Lib.hid (HF.out.trans (HF2.out.trans (Fr.of_below hb3)))
        have HRW3 : Hid (RowAt w3 b 82 (cap * 33)) := by
          have h1 : RowAt W2 b 82 (cap * 33) := by rw [HW2.out]; exact HRW.out.fr (Fr.alloc (S := fun _ => False) _ _) id
          exact h1.fr (Fr.of_below (S := fun _ => False) hb3) id
        have HRN3 : Hid (w3.rangeAt b 0 (pcells q)) := by
          have h1 : W2.rangeAt b 0 (pcells q) := by rw [HW2.out]; exact rangeAt_fr HRN.out (Fr.alloc (S := fun _ => False) _ _) id
          exact rangeAt_fr h1 (Fr.of_below (S := fun _ => False) hb3) id
        have HB3 : Hid (w3.rangeAt wr.heap.size 0 (wcells v)) := rangeAt_fr HB2.out (Fr.of_below (S := fun _ => False) hb3) id
        by_cases heq : (v.1 : Int) = a
        · rw [decide_eq_true heq]
          have HE := Lib.hid heq
          clear heq
          go_wp2_with fail
          go_roundw
          case rel => exact ⟨i, j + 1, q, rfl, by go_num, by omega, by omega, Lib.hid (HD.out.drop HV.out HE.out), HRW3, HRN3, HF3⟩
          case measure => simp [intOf]; omega
        · rw [decide_eq_false heq]
          have HE := Lib.hid heq
          have hi1 : (0 : Int) ≤ (i : Int) := by omega
          have hi2 : (i : Int) < (p.length : Int) := by omega
          have HTH : Hid (w3.there b (i * 33) 33) := fun m hm => by
            have := HRW3.out.there (i * 33 + m) (by have h9 := Nat.mul_le_mul_right 33 (show i + 1 ≤ cap by omega); omega)
            rwa [Nat.zero_add] at this
          clear heq
          go_wp2_with (first
            | (refine wpList_load_mid rfl 82 _ rfl wr.heap.size 0 rfl (wcells v) _ HB3.out Try.underlying82 rfl (by rw [HWL.out]; exact HI.out) ?_)
            | (refine wpList_store_mid rfl 82 _ _ rfl b (i * 33) (wcells v).toArray rfl rfl (by rw [HWS.out]; exact HTH.out) (by rw [HWS.out]; exact HI.out) (all_oneCell_toArray (wcells_one v)) ?_)
            | fail)
          go_roundw
          case rel =>
            obtain ⟨u, hu⟩ : ∃ u, q[i]? = some u := ⟨_, List.getElem?_eq_getElem (by rw [HD.out.len]; omega)⟩
            exact ⟨i + 1, j + 1, q.set i v, by go_num, by go_num, by omega, by omega, Lib.hid (HD.out.keep HV.out HV3.out HE.out), Lib.hid (HRW3.out.setCells b _ _), Lib.hid (range_set HRN3.out HD.out.sec hu HV3.out HTH.out), Lib.hid (HF3.out.trans (Fr.cells _ _ _ _))⟩
          case measure => simp [intOf]; omega
      · have hje : j = p.length := by omega
        have HDone := Lib.hid (HD.out.done hje)
        have hi2 : i < p.length := by omega
        have hic : i < cap := by omega
        have HTH : Hid (wr.there b (i * 33) ((p.length - i) * 33)) := fun m hm => by
          have := HRW.out.there (i * 33 + m) (by have h9 := Nat.mul_le_mul_right 33 (show i + (p.length - i) ≤ cap by omega); rw [Nat.add_mul] at h9; omega)
          rwa [Nat.zero_add] at this
        have hi1I : (0 : Int) ≤ (i : Int) := by omega
        have hi2I : (i : Int) ≤ (p.length : Int) := by omega
        have hnc : ¬ cap = i := by omega
        clear hje
        go_wp2_with (first
          | (go_loud (refine wpList_clear_mid rfl _ 78 82 rfl Try.underlying78 Z 33 HZR.out HZS.out HZ1.out (by decide) b (i * 33) (p.length - i) (cap - i) rfl (by omega) HTH.out ?_); intro vs hvs)
          | fail)
        go_ret
        have hfl : (notAt a p).length = i := by rw [← HDone.out, List.length_take, HD.out.len]; omega
        have hrt : wr.rangeAt b 0 (pcells (notAt a p)) := by rw [← HDone.out]; exact range_take HRN.out
        have hsn : ∀ v ∈ notAt a p, v.2.length = 32 := fun v hv => HS.out v (List.mem_filter.1 hv).1
        have hpl := pcells_len hsn
        refine ⟨_, rfl, ?_, HF.out.trans (Fr.cells _ _ _ _)⟩
        rw [hfl]
        exact RowAt.own (HRW.out.setCells b _ _) (World.rangeAt_setCells_apart hrt b _ _ (.inr (.inl (by rw [hpl, hfl]; omega)))) (by rw [hpl, hfl]) hbase (by omega) HN2.out
end Go.Proofs.Ytggljcdkiaggeaa
