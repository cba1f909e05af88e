/- The walk of CrcForms (chapter 1). True at every input. -/
import Derived.Test.YtghbbceephcifaaCrcLaws
import Derived.Test.YtghbbceephcifaaMake
import Derived.Deep.RegionHeld3
import Derived.Deep.DrawnRows
import Derived.Deep.CutRange
namespace Go.Proofs.Ytghbbceephcifaa
open Go.RowKit C
attribute [local go_sem ↓] Go.wp_at_zero Go.wp_at_succ
set_option linter.unusedVariables false
set_option linter.unusedSimpArgs false
set_option maxRecDepth 100000
set_option maxHeartbeats 4000000

theorem sum_to (v : Value) (ls : List (List Nat)) (w : World) (X : Nat) (h : Parts w v ls) (hx : crc ls = X) :
    Calls Try.prog 17 #[v] w fun e w' => e = .returned (.int .u32 (X : Nat)) ∧ w = w' := hx ▸ sum_any v ls w h
attribute [local irreducible] Go.Calls Byt Own Parts
theorem crcForms_walk (cut : Int) (w : World) (h1 : -9223372036854775808 ≤ cut ∧ cut ≤ 9223372036854775807) :
    Calls Try.prog 3 #[.int .i64 cut] w fun e w' => e = .returned (.bool true) ∧ Below w.heap.size w w' := by
  obtain ⟨j0, hj, hy0, hy1, hy2⟩ := info_parts uint8_info
  have kc := fun (w : World) (C : Array Value) (n c : Nat) => Lib.run_convert_bytes_const (P := Try.prog) w 23 5 C n c Try.underlying23 Try.underlying5
  have kc1 : (convert 23 23 (.slice (some ⟨w.heap.size + 1, 0, none⟩) 1 1)).run Try.prog ((w.alloc (.cells #[.int .u8 0] 5)).alloc (.cells #[.int .u8 97] 5)) = .ok (.slice (some ⟨w.heap.size + 1, 0, none⟩) 1 1) ((w.alloc (.cells #[.int .u8 0] 5)).alloc (.cells #[.int .u8 97] 5 (1, 2))) := by
    have := kc (w.alloc (.cells #[.int .u8 0] 5)) #[.int .u8 97] 1 1
    simpa using this
  go_enter Try.func3, Try.ntmps3
  go_wp2_with (first
    | (at_make; go_loud (refine wpList_make_bytes rfl _ _ 23 rfl j0 Try.underlying23 hj hy0 hy1 hy2 _ _ _ _ 32 rfl rfl rfl rfl (by decide) ?_); intro w1 O1 b1)
    | fail)
  obtain ⟨W0, hW0⟩ : ∃ W0, W0 = (w1.alloc (.cells #[.int .u8 49, .int .u8 50, .int .u8 51, .int .u8 52, .int .u8 53, .int .u8 54, .int .u8 55, .int .u8 56, .int .u8 57] 5 (9, 10))).alloc (.cells #[.slice none 0 0, .int .u32 0, .slice (some ⟨w.heap.size, 0, none⟩) 1 1, .int .u32 1383945041, .slice (some ⟨w.heap.size + 1, 0, none⟩) 1 1, .int .u32 3251651376, .slice (some ⟨w.heap.size + 1 + 1, 0, none⟩) 32 32, .int .u32 2324772522, .slice (some ⟨w1.heap.size, 0, none⟩) 9 9, .int .u32 3808858755] 24) := ⟨_, rfl⟩
  rw [← hW0]
  have hcell : ∀ j, W0.cell? ⟨w1.heap.size + 1, j, none⟩ = _ := fun j => cell_of_row W0 (w1.heap.size + 1) j _ _ (0, 0) (by rw [hW0]; have := heap_alloc_new (w1.alloc (.cells #[.int .u8 49, .int .u8 50, .int .u8 51, .int .u8 52, .int .u8 53, .int .u8 54, .int .u8 55, .int .u8 56, .int .u8 57] 5 (9, 10))) (.cells #[.slice none 0 0, .int .u32 0, .slice (some ⟨w.heap.size, 0, none⟩) 1 1, .int .u32 1383945041, .slice (some ⟨w.heap.size + 1, 0, none⟩) 1 1, .int .u32 3251651376, .slice (some ⟨w.heap.size + 1 + 1, 0, none⟩) 32 32, .int .u32 2324772522, .slice (some ⟨w1.heap.size, 0, none⟩) 9 9, .int .u32 3808858755] 24); simpa using this)
  have b10 : Below w1.heap.size w1 W0 := by rw [hW0]; exact belA2 (belR w1)
  have b1x : Below w.heap.size w w1 := belT (belA2 (belR w)) b1
  have HK : Hid (∀ k, k < 5 → ∃ ao n cap lb x, W0.cell? ⟨w1.heap.size + 1, k * 2, none⟩ = some (.slice ao n cap) ∧ W0.cell? ⟨w1.heap.size + 1, k * 2 + 1, none⟩ = some (.int .u32 ((x : Nat) : Int)) ∧ Byt W0 (.slice ao n cap) lb ∧ n ≤ 32 ∧ crc [lb] = x) := by
    intro k hk
    have B1 : Byt w1 (.slice (some ⟨w.heap.size, 0, none⟩) 1 1) [0] := ((Byt.lit1 w 0 5 (g := w.heap.size) (fr := (0, 0)) rfl (by decide)).alloc (o := .cells #[.int .u8 97] 5 (1, 2))).up b1
    have B2 : Byt w1 (.slice (some ⟨w.heap.size + 1, 0, none⟩) 1 1) [97] := (Byt.lit1 (w.alloc (.cells #[.int .u8 0] 5)) 97 5 (g := w.heap.size + 1) (fr := (1, 2)) (by simp) (by decide)).up b1
    have B3 : Byt w1 (.slice (some ⟨w.heap.size + 1 + 1, 0, none⟩) 32 32) (List.replicate 32 0) := by have := O1.byt; simpa using this
    have B4 : Byt (w1.alloc (.cells #[.int .u8 49, .int .u8 50, .int .u8 51, .int .u8 52, .int .u8 53, .int .u8 54, .int .u8 55, .int .u8 56, .int .u8 57] 5 (9, 10))) (.slice (some ⟨w1.heap.size, 0, none⟩) 9 9) [49, 50, 51, 52, 53, 54, 55, 56, 57] := Byt.lit w1 #[.int .u8 49, .int .u8 50, .int .u8 51, .int .u8 52, .int .u8 53, .int .u8 54, .int .u8 55, .int .u8 56, .int .u8 57] 5 [49, 50, 51, 52, 53, 54, 55, 56, 57] rfl rfl rfl (by decide) (by decide)
    match k, hk with
    | 0, _ => exact ⟨_, _, _, [], 0, by rw [hcell]; rfl, by rw [hcell]; rfl, Byt.nil _, by decide, by decide +kernel⟩
    | 1, _ => exact ⟨_, _, _, [0], 1383945041, by rw [hcell]; rfl, by rw [hcell]; rfl, B1.up b10, by decide, by decide +kernel⟩
    | 2, _ => exact ⟨_, _, _, [97], 3251651376, by rw [hcell]; rfl, by rw [hcell]; rfl, B2.up b10, by decide, by decide +kernel⟩
    | 3, _ => exact ⟨_, _, _, List.replicate 32 0, 2324772522, by rw [hcell]; rfl, by rw [hcell]; rfl, B3.up b10, by decide, by decide +kernel⟩
    | 4, _ => exact ⟨_, _, _, [49, 50, 51, 52, 53, 54, 55, 56, 57], 3808858755, by rw [hcell]; rfl, by rw [hcell]; rfl, by rw [hW0]; exact B4.alloc, by decide, by decide +kernel⟩
  have c0 : Below w.heap.size w W0 := belT b1x b10
  clear hcell b10 b1x O1 b1 hW0 kc1 kc hj hy0 hy1 hy2
  obtain ⟨B, hB⟩ : ∃ B, B = w1.heap.size + 1 := ⟨_, rfl⟩
  rw [← hB] at HK ⊢
  clear hB
  go_loopw [19] (fun i w' => ∃ k : Nat, k ≤ 5 ∧ i = .int .i64 k ∧ Below W0.heap.size W0 w') (fun i _ => 5 - (intOf i).toNat)
  case atStart => exact ⟨0, by decide, rfl, belR _⟩
  case round =>
    obtain ⟨k, hk, rfl, hBk⟩ := hrel
    by_cases hlt : k < 5
    · obtain ⟨ao, n, cap, lb, x, hc1, hc2, hby, hn, hcrc⟩ := HK.out k hlt
      have hd1 : wr.cell? ⟨B, k * 2, none⟩ = some (.slice ao n cap) := by rw [hBk.cell (World.block_lt_of_cell? _ _ hc1)]; exact hc1
      have hd2 : wr.cell? ⟨B, k * 2 + 1, none⟩ = some (.int .u32 ((x : Nat) : Int)) := by rw [hBk.cell (World.block_lt_of_cell? _ _ hc2)]; exact hc2
      clear hc1 hc2
      have HCr := Lib.hid hcrc
      clear hcrc
      obtain ⟨_, _, en, hncap, _⟩ := hby.shape
      have hnl : n = lb.length ∧ n ≤ cap := by cases en; exact ⟨rfl, hncap⟩
      have hnc := hnl.2
      clear en hncap hnl
      go_wp2_with fail
      refine Calls.mono (within_any cut _ _ (by omega) h1.1 h1.2) ?_
      have hw1 := withinI_ge cut ((n : Int) + 1)
      have hw2 := withinI_lt cut ((n : Int) + 1) (by omega)
      obtain ⟨q, hq⟩ := Int.eq_ofNat_of_zero_le hw1
      rw [hq] at hw1 hw2 ⊢
      have hql : q ≤ n := by omega
      clear hq hw1 hw2
      rintro e w2 ⟨rfl, rfl⟩
      have hqc : q ≤ cap := by omega
      have hBk' := hBk
      have HA0 := hby.up hBk
      have hW2c : ∀ j, (wr.alloc (.cells #[.slice ao n cap, .int .u32 ((x : Nat) : Int)] 24)).cell? ⟨wr.heap.size, j, none⟩ = _ := fun j => cell_of_row _ wr.heap.size j _ _ (0, 0) (heap_alloc_new wr _)
      obtain ⟨W2, hW2⟩ : ∃ W2, W2 = wr.alloc (.cells #[.slice ao n cap, .int .u32 ((x : Nat) : Int)] 24) := ⟨_, rfl⟩
      rw [← hW2] at hW2c ⊢
      have hz0 : W2.cell? ⟨wr.heap.size, 0, none⟩ = some (.slice ao n cap) := by rw [hW2c]; rfl
      have hz1 : W2.cell? ⟨wr.heap.size, 1, none⟩ = some (.int .u32 ((x : Nat) : Int)) := by rw [hW2c]; rfl
      have c2 : Below W0.heap.size W0 W2 := by rw [hW2]; exact belA1 hBk
      have HA : Hid (Byt W2 (.slice ao n cap) lb) := by rw [hW2]; exact HA0.alloc
      have HT := Lib.hid (HA.out.takeI hql)
      have hD := HA.out.dropI hql
      obtain ⟨aod, haod⟩ : ∃ y, (if cap = q then ao else Option.map (fun a => a.add q) ao) = y := ⟨_, rfl⟩
      have HD : Hid (Byt W2 (.slice aod (n - q) (cap - q)) (lb.drop q)) := by rw [← haod]; exact hD
      have E2 : Hid (crc [lb.take q, lb.drop q] = x) := by show _ = _; rw [← HCr.out]; simp [crc]
      obtain ⟨g2, hg2⟩ : ∃ g2, g2 = wr.heap.size := ⟨_, rfl⟩
      rw [← hg2] at hz0 hz1 ⊢
      have HC : Hid (∀ W, Below W2.heap.size W2 W → W.cell? ⟨g2, 0, none⟩ = some (.slice ao n cap) ∧ W.cell? ⟨g2, 1, none⟩ = some (.int .u32 ((x : Nat) : Int))) := by
        intro W hW
        rw [hW.cell (World.block_lt_of_cell? _ _ hz0), hW.cell (World.block_lt_of_cell? _ _ hz1)]
        exact ⟨hz0, hz1⟩
      have hq0 : (0 : Int) ≤ (q : Int) := by omega
      have hq1 : (q : Int) ≤ (n : Int) := by omega
      have hq2 : (q : Int) ≤ (cap : Int) := by omega
      have hq3 : (n : Int) ≤ (cap : Int) := by omega
      have hB2 : Below W2.heap.size W2 W2 := belR _
      clear hD HA0 hW2c hW2 hg2 hBk' hby hd1 hd2
      go_wp2_with fail
      go_cut [50] from 20 to 51 (fun s w' => s = .bool false ∧ Below W2.heap.size W2 w')
      case first =>
        go_region_held3 (fun w' => w'.cell? ⟨g2, 0, none⟩ = some (.slice ao n cap) ∧ w'.cell? ⟨g2, 1, none⟩ = some (.int .u32 ((x : Nat) : Int)))
          ((refine HC.out _ ?_; iterate 8 try (first | assumption | apply belDr | apply belAlloc)))
          ((go_at_call 17; (first | (refine Calls.mono (sum_to _ [lb] _ x (by first | exact (Parts.lit1 (by first | rfl | simp) (HA.out.up (by iterate 8 try (first | assumption | apply belDr | apply belAlloc)))).drew | exact (Parts.lit1 (by first | rfl | simp) (HA.out.up (by iterate 8 try (first | assumption | apply belDr | apply belAlloc))))) HCr.out) ?_) | (refine Calls.mono (sum_to _ [lb.take q, lb.drop q] _ x (by first | exact (Parts.lit2 (by first | rfl | simp) (HT.out.up (by iterate 8 try (first | assumption | apply belDr | apply belAlloc))) (HD.out.up (by iterate 8 try (first | assumption | apply belDr | apply belAlloc)))).drew | exact (Parts.lit2 (by first | rfl | simp) (HT.out.up (by iterate 8 try (first | assumption | apply belDr | apply belAlloc))) (HD.out.up (by iterate 8 try (first | assumption | apply belDr | apply belAlloc))))) E2.out) ?_)); rintro e w' ⟨rfl, rfl⟩))
        all_goals
          go_wp2
          go_meet
          case rel => exact ⟨rfl, (by iterate 8 try (first | assumption | apply belDr | apply belAlloc))⟩
      case rest =>
        obtain ⟨rfl, bc⟩ := hcut
        go_wp2
        go_roundw
        case rel => exact ⟨k + 1, by omega, by go_num, belT c2 bc⟩
        case measure => simp [intOf]; omega
    · go_wp2_with fail
      refine Calls.mono (wakes1_any _) ?_
      rintro e w12 ⟨rfl, b12⟩
      go_wp2_with fail
      go_ret
      exact ⟨rfl, belT c0 (belT hBk b12)⟩
theorem crcForms_law (cut : Int) (h1 : -9223372036854775808 ≤ cut ∧ cut ≤ 9223372036854775807) (W : World) :
    Calls Try.prog 3 #[.int .i64 cut] W fun e W' => e = .returned (.bool true) ∧ Below W.heap.size W W' := crcForms_walk cut W h1
end Go.Proofs.Ytghbbceephcifaa
