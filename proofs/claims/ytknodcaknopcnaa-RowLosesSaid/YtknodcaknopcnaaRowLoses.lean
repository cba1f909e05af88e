/- The walk of RowLoses (chapter 13). True at every input. -/
import Derived.Test.YtknodcaknopcnaaRwN
import Derived.Test.YtknodcaknopcnaaMapR
import Derived.Test.YtknodcaknopcnaaWk13
namespace Go.Proofs.Ytknodcaknopcnaa
open Go.RowKit
set_option linter.unusedVariables false
set_option linter.unusedSimpArgs false
set_option maxRecDepth 100000
set_option maxHeartbeats 2000000

theorem cellAlloc {w : World} {a : Addr} {v : Value} (o : Obj) (h : w.cell? a = some v) : (w.alloc o).cell? a = some v := by
  rw [(belA1 (belR w) : Below w.heap.size w (w.alloc o)).cell (block_lt_of_cell h)]; exact h
theorem set_rows (w : World) (r : Nat) (o : Obj) : Fr (fun b => b = r) w (Go.ChangeMaps.setBlock w r o) := by
  refine ⟨rfl, rfl, rfl, by simp [Go.ChangeMaps.setBlock], fun k hk hne => ?_⟩
  show (w.heap.setIfInBounds r o)[k]? = w.heap[k]?
  rw [Array.getElem?_setIfInBounds_ne (fun e => hne e.symm)]
attribute [local irreducible] Go.Calls Byt Own Parts RowB OwnD RowL MapR
theorem rowLoses_law (w : World) (n : Int) (hn0 : -9223372036854775808 ≤ n ∧ n ≤ 9223372036854775807) (r0 : Int) (hr0 : -9223372036854775808 ≤ r0 ∧ r0 ≤ 9223372036854775807) (lv : Value) (ll : List Int) (hl : Ints w lv ll) (hll : ll.length * 8 ≤ 140737488351232) (a0 : Int) (ha0 : -9223372036854775808 ≤ a0 ∧ a0 ≤ 9223372036854775807) (b0 : Int) (hb0 : -9223372036854775808 ≤ b0 ∧ b0 ≤ 9223372036854775807) (c0' : Int) (hc0 : -9223372036854775808 ≤ c0' ∧ c0' ≤ 9223372036854775807) :
    Calls Try.prog 9 #[.int .i64 n, .int .i64 r0, lv, .int .i64 a0, .int .i64 b0, .int .i64 c0'] w fun e w' => e = .returned (.bool true) ∧ Below w.heap.size w w' := by
  have hz : ∀ w : World, (zeroValue 4).run Try.prog w = .ok (.bool false) w := fun w => by kernel_rfl
  have HZZ := Lib.hid hz
  have hn : i64b n := hn0
  have HR := Lib.hid (show i64b r0 from hr0)
  have HA0 := Lib.hid (show i64b a0 from ha0)
  have HB0 := Lib.hid (show i64b b0 from hb0)
  have HC0 := Lib.hid (show i64b c0' from hc0)
  have HLL := Lib.hid hl
  clear hn0 hr0 ha0 hb0 hc0 hl hz
  go_enter Try.func9, Try.ntmps9
  go_wp2_with fail
  refine Calls.mono (pgood_any n _ hn) ?_
  rintro e w1 ⟨l', d', c', rfl, hok, b1⟩
  obtain ⟨l, d, c, rfl, rfl, rfl, hokN⟩ := geo_okN hok
  obtain ⟨hl64, hd64, hc64⟩ := okN_in hokN
  have HOK := Lib.hid hokN
  have HK : Hid (∀ X, Below (w1.alloc (.cells #[.int .i64 (l : Int), .int .i64 (d : Int), .int .i64 (c : Int)] 42)).heap.size (w1.alloc (.cells #[.int .i64 (l : Int), .int .i64 (d : Int), .int .i64 (c : Int)] 42)) X → X.cell? ⟨w1.heap.size, 0, none⟩ = some (.int .i64 l) ∧ X.cell? ⟨w1.heap.size, 1, none⟩ = some (.int .i64 d) ∧ X.cell? ⟨w1.heap.size, 2, none⟩ = some (.int .i64 c)) :=
    fun X hX => ⟨box_up hX 0 rfl, box_up hX 1 rfl, box_up hX 2 rfl⟩
  have HW : Hid ((Geo.mk l d c).width = ((d - (l - 4) : Nat) : Int)) := by
    show _ = _
    unfold Geo.width
    rw [if_pos hok]
    have := hokN.1
    dsimp only
    omega
  have HRW := Lib.hid (refwidth_any l d c · hl64 hd64 hc64)
  have hd8 : Hid (1 ≤ d ∧ d ≤ 8 ∧ l - 4 + (d - (l - 4)) = d ∧ 1 ≤ d - (l - 4) ∧ 3 ≤ d ∧ l - 4 ≤ 2) := by
    obtain ⟨h1, h2, _⟩ := hokN
    refine ⟨?_, ?_, ?_, ?_, ?_, ?_⟩ <;> omega
  have hd81 : (1 : Int) ≤ (d : Int) := by have := hd8.out; omega
  have hd88 : (d : Int) ≤ 8 := by have := hd8.out; omega
  have hdd : ((d : Int) != (d : Int)) = false := by simp
  clear hl64 hd64 hc64 hokN hok hn
  go_wp2_with fail
  refine Calls.mono (within_ex r0 16 _ (by decide) (by decide) HR.out) ?_
  rintro e w2 ⟨r, rfl, hr, rfl⟩
  have HRR : Hid (r < 16) := Lib.hid (by omega)
  have BB : Hid (Below w.heap.size w (w1.alloc (.cells #[.int .i64 (l : Int), .int .i64 (d : Int), .int .i64 (c : Int)] 42))) := Lib.hid (belA1 b1)
  have HPA := Lib.hid (refparity_any l d c r · HOK.out HRR.out)
  clear hr
  obtain ⟨m, hm⟩ : ∃ m, m = d - (l - 4) := ⟨_, rfl⟩
  obtain ⟨bu, hbu⟩ : ∃ bu, bu = l - 4 := ⟨_, rfl⟩
  have HM := Lib.hid hm
  have HBU := Lib.hid hbu
  have hm8 : Hid (1 ≤ m ∧ m ≤ 8) := by have := hd8.out; show _ ∧ _; omega
  have hbu2 : bu ≤ 2 ∧ 1 ≤ bu := by have := HOK.out.1; omega
  obtain ⟨hbu2, hbu1⟩ := hbu2
  have hwb : IntKind.i64.wrap ((l : Int) - 4) = (bu : Int) := by have := HOK.out.1; rw [IntKind.wrap_i64]; omega
  have hwm : IntKind.i64.wrap ((d : Int) - (bu : Int)) = (m : Int) := by have := hd8.out; rw [IntKind.wrap_i64]; omega
  have hl56 : 5 ≤ l ∧ l ≤ 6 := by have := HOK.out.1; omega
  obtain ⟨hl5, hl6⟩ := hl56
  clear hm hbu
  obtain ⟨c0, c1, c2⟩ := HK.out _ (belR _)
  go_wp2_with fail
  refine Calls.mono (sectors13_any _ ll m _ (HLL.out.up BB.out) (by have := hm8.out; omega)) ?_
  rintro e w4 ⟨v4, rfl, O4, B4⟩
  obtain ⟨data, hdata⟩ : ∃ data, data = sectL ll m := ⟨_, rfl⟩
  have DL : Hid (data.length = m) := by show _ = _; rw [hdata]; exact sectL_len _ _
  have D32 : Hid (∀ p ∈ data, p.length = 32) := by rw [hdata]; exact sectL_32 _ _
  have D8 : Hid (∀ p ∈ data, ∀ x ∈ p, x < 256) := by rw [hdata]; exact sectL_byte _ _
  have DW : Hid (data.length = d - (l - 4)) := by show _ = _; rw [DL.out]; exact HM.out
  rw [← hdata] at O4
  obtain ⟨gd, kd, he4, hgd1, hgd2, _, _⟩ := O4.toB.shape (by rw [DL.out]; have := hm8.out; omega)
  rw [DL.out] at he4
  subst he4
  have HD4 := Lib.hid O4.parts
  clear O4 hdata c0 c1 c2
  obtain ⟨c0, c1, c2⟩ := HK.out _ B4
  go_wp2_with fail
  refine Calls.mono (fill_any l d c r _ data _ HOK.out HRR.out HD4.out DW.out D32.out) ?_
  rintro e w5 ⟨v5, rfl, O5, b5⟩
  have hFl : (Y.fillL l d c r data).length = d := Y.fillL_len _ _ _ _ _
  have hF32 := Y.fillL_32 (r := r) HOK.out DW.out D32.out
  have hRW : Y.rightB l d c r (Y.fillL l d c r data) = true := by rw [Y.right_whole HOK.out hFl hF32, Y.take_fill (r := r) HOK.out DW.out]; exact decide_eq_true rfl
  obtain ⟨g, cap, he5, hg1, hg2, _, _⟩ := O5.toB.shape (by rw [hFl]; have := hd8.out; omega)
  rw [hFl] at he5
  subst he5
  have RB5 := Lib.hid O5.toB
  have HFL := Lib.hid hFl
  have HRW := Lib.hid hRW
  have B5 := belT B4 b5
  clear O5 hFl hF32 hRW c0 c1 c2
  obtain ⟨c0, c1, c2⟩ := HK.out _ B5
  go_wp2_with fail
  refine Calls.mono (right_any l d c r _ (Y.fillL l d c r data) _ HOK.out HRR.out RB5.out.parts HFL.out) ?_
  rw [HRW.out]
  rintro e w6 ⟨rfl, b6⟩
  have b46 := belT b5 b6
  have RB6 := Lib.hid (RB5.out.up b6)
  have HD6 := Lib.hid (HD4.out.up b46)
  have hmm := @run_makeMap Try.prog
  clear c0 c1 c2
  go_wp2_with fail
  clear hmm
  obtain ⟨mb, hmb⟩ : ∃ mb, mb = w6.heap.size := ⟨_, rfl⟩
  have hgm : Hid (g < mb) := by show _ < _; rw [hmb]; exact Nat.lt_of_lt_of_le hg2 b6.size
  have h46 : Hid (w4.heap.size ≤ mb) := by show _ ≤ _; rw [hmb]; exact b46.size
  obtain ⟨w7, hw7⟩ : ∃ w7 : World, w7 = (w6.alloc (.map #[] 0)).alloc (.cells #[.int .i64 a0, .int .i64 b0] 3) := ⟨_, rfl⟩
  have M7 : MapR w7 mb #[] 0 [] := by
    rw [hw7, hmb]
    refine (MapR.made w6).same ?_
    exact heap_alloc_old _ _ (by simp)
  have b67 : Below w6.heap.size w6 w7 := by rw [hw7]; exact belA2 (belR _)
  have C7 : w7.cell? ⟨mb + 1, 0, none⟩ = some (.int .i64 a0) ∧ w7.cell? ⟨mb + 1, 1, none⟩ = some (.int .i64 b0) := by
    have key : ∀ i, w7.cell? ⟨mb + 1, i, none⟩ = (#[Value.int .i64 a0, .int .i64 b0] : Array Value)[i]? := fun i => by
      rw [hw7]
      have := cell_of_row ((w6.alloc (.map #[] 0)).alloc (.cells #[.int .i64 a0, .int .i64 b0] 3)) _ i _ _ _ (heap_alloc_new _ _)
      rw [← this, hmb]; simp
    exact ⟨by rw [key]; rfl, by rw [key]; rfl⟩
  have h7m : mb + 1 < w7.heap.size := by rw [hw7, hmb]; simp
  have b47 := belT b46 b67
  rw [← hw7]
  try rw [← hmb]
  have HMB := Lib.hid hmb
  clear hw7 hmb b5 b6 b46 hgd1
  go_loopw [70] (fun i X => ∃ (k : Nat) (arr : Array MapEntry) (clock : Nat) (ks : List Int), k ≤ 2 ∧ i = .int .i64 k ∧ MapR X mb arr clock ks ∧ Hid (∀ y ∈ ks, 0 ≤ y ∧ y < (d : Int)) ∧ ks.length ≤ bu ∧ X.cell? ⟨mb + 1, 0, none⟩ = some (.int .i64 a0) ∧ X.cell? ⟨mb + 1, 1, none⟩ = some (.int .i64 b0) ∧ Hid (Fr (fun b => b = mb) w7 X)) (fun i _ => 2 - (intOf i).toNat)
  case atStart => exact ⟨0, #[], 0, [], by decide, rfl, M7, Lib.hid (fun y hy => by cases hy), Nat.zero_le _, C7.1, C7.2, Lib.hid (Fr.refl _ _)⟩
  case round =>
    obtain ⟨k, arr, clock, ks, hk, rfl, hM, hks, hkl, hc70, hc71, hFr⟩ := hrel
    by_cases hlt : k < 2
    · obtain ⟨v, hv, HV⟩ : ∃ v, wr.cell? ⟨mb + 1, k, none⟩ = some (.int .i64 v) ∧ Hid (i64b v) := by
        have : k = 0 ∨ k = 1 := by omega
        rcases this with rfl | rfl
        · exact ⟨a0, hc70, HA0⟩
        · exact ⟨b0, hc71, HB0⟩
      have HLT := Lib.hid hlt
      have hk0 : (0 : Int) ≤ (k : Int) := by omega
      have hk2 : (k : Int) < 2 := by omega
      have hk1' : IntKind.i64.wrap ((k : Int) + 1) = ((k + 1 : Nat) : Int) := by rw [IntKind.wrap_i64]; omega
      have HC7 := Lib.hid (show wr.cell? ⟨mb + 1, 0, none⟩ = some (.int .i64 a0) ∧ wr.cell? ⟨mb + 1, 1, none⟩ = some (.int .i64 b0) from ⟨hc70, hc71⟩)
      have HMR := Lib.hid hM
      have B4r : Below w4.heap.size w4 wr := Fr.below b47 hFr.out b47.size (fun i hi => by rw [hi]; exact h46.out)
      obtain ⟨c0, c1, c2⟩ := HK.out _ (belT B4 B4r)
      have hMI := hM.toI
      obtain ⟨nk, hnk⟩ : ∃ nk, nk = ks.length := ⟨_, rfl⟩
      have hml : ((ks.map (fun k => (k, Value.bool true))).length : Int) = (nk : Int) := by rw [List.length_map, hnk]
      rw [← hnk] at hkl
      have HNK := Lib.hid hnk
      have HML := Lib.hid hml
      clear hc70 hc71 hlt hnk hml
      by_cases hlb : nk < bu
      · have hlb' : (nk : Int) < (bu : Int) := by omega
        have HLB := Lib.hid hlb
        clear hlb
        go_wp2_with (at_len; refine wpList_lenI rfl _ 59 rfl 3 4 .i64 Try.underlying59 mb _ rfl hMI ?_; rw [HML.out])
        refine Calls.mono (within_ex v d _ (by omega) hd81 HV.out) ?_
        rintro e w8 ⟨y, rfl, hy, rfl⟩
        have HY := Lib.hid hy
        go_wp2_with (at_mapUpdate; refine wpList_storeR rfl _ _ _ 59 rfl 3 4 Try.underlying59 Try.underlying3 mb arr clock ks (y : Int) rfl rfl rfl HMR.out ?_; intro w9 arr9 clock9 ks9 hM9 hg9 hs9 hl9 hm9)
        have hF9 : Fr (fun b => b = mb) wr w9 := (Fr.grown hg9).mono (fun i hi => by cases hi; rfl)
        go_roundw
        case rel =>
          refine ⟨k + 1, arr9, clock9, ks9, HLT.out, by go_num, hM9, Lib.hid (fun z hz => ?_), by have := HNK.out; have := HLB.out; omega, cell_fr HC7.out.1 hF9 (by simp), cell_fr HC7.out.2 hF9 (by simp), Lib.hid (hFr.out.trans hF9)⟩
          rcases (hm9 z).1 hz with rfl | hz
          · exact ⟨by omega, HY.out⟩
          · exact hks.out z hz
        case measure => have := HLT.out; simp [intOf]; omega
      · have hlB : decide ((nk : Int) < (bu : Int)) = false := by rw [decide_eq_false_iff_not]; omega
        have hlP : ((nk : Int) < (bu : Int)) = False := by rw [eq_iff_iff]; exact ⟨fun h => by omega, fun h => h.elim⟩
        clear hlb
        go_wp2_with (at_len; refine wpList_lenI rfl _ 59 rfl 3 4 .i64 Try.underlying59 mb _ rfl hMI ?_; rw [HML.out])
        go_roundw
        case rel => exact ⟨k + 1, arr, clock, ks, HLT.out, by go_num, HMR.out, hks, by have := HNK.out; omega, HC7.out.1, HC7.out.2, hFr⟩
        case measure => have := HLT.out; simp [intOf]; omega
    · have hkB : decide ((k : Int) < 2) = false := by rw [decide_eq_false_iff_not]; omega
      have hkP : ((k : Int) < 2) = False := by rw [eq_iff_iff]; exact ⟨fun h => by omega, fun h => h.elim⟩
      have B4r : Below w4.heap.size w4 wr := Fr.below b47 hFr.out b47.size (fun i hi => by rw [hi]; exact h46.out)
      have HMR := Lib.hid hM
      have hrg := run_range_map (P := Try.prog) wr 59 3 4 mb arr clock Try.underlying59 HMR.out.heapAt
      clear hlt hk hM hc70 hc71
      go_wp2_with fail
      have B6r : Below w6.heap.size w6 wr := Fr.below b67 hFr.out b67.size (fun i hi => by rw [hi, HMB.out]; exact Nat.le_refl _)
      obtain ⟨it, hit⟩ : ∃ it, it = wr.heap.size := ⟨_, rfl⟩
      obtain ⟨w10, hw10⟩ : ∃ w10 : World, w10 = wr.alloc (.mapIter (some mb) clock #[] clock) := ⟨_, rfl⟩
      rw [← hw10]
      rw [← hit]
      have hmit : mb < it := by rw [hit]; exact HMR.out.lt
      have hgit : g < it := by have := hgm.out; omega
      have H10 : w10.heap[it]? = some (.mapIter (some mb) clock #[] clock) := by rw [hw10, hit]; exact heap_alloc_new _ _
      have M10 : MapR w10 mb arr clock ks := by rw [hw10]; exact HMR.out.same (heap_alloc_old _ _ HMR.out.lt)
      have b610 : Below w6.heap.size w6 w10 := by rw [hw10]; exact belA1 B6r
      have B10 : Below w4.heap.size w4 w10 := by rw [hw10]; exact belA1 B4r
      have R10 := Lib.hid (RB6.out.up b610)
      have h4it : w4.heap.size ≤ it := by rw [hit]; exact B4r.size
      have HST := Lib.hid HMR.out.stamps
      have HKN := Lib.hid hkl
      obtain ⟨FL, hFLe⟩ : ∃ FL, FL = Y.fillL l d c r data := ⟨_, rfl⟩
      have HFLE := Lib.hid hFLe
      have FNE : Hid (∀ i, i < d → FL.getD i [] ≠ []) := by intro i hi; rw [hFLe]; exact Y.fill_ne HOK.out DW.out D32.out hi
      rw [← hFLe] at HFL R10
      have L10 := Lib.hid (Y.Lost.refl HFL.out)
      clear hit hw10 hrg B6r HMR hFLe hFr b67 b47 hkl RB6 RB5 B4r M7 C7
      go_loopw [] (fun X => ∃ (seen : Array Nat) (rows : List (List Nat)), X.heap[it]? = some (.mapIter (some mb) clock seen clock) ∧ MapR X mb arr clock ks ∧ Hid (RowB X w4.heap.size (.slice (some ⟨g, 0, none⟩) d cap) rows) ∧ Hid (Y.Lost d FL rows) ∧ Hid (∀ e ∈ arr.toList, seen.contains e.born = true → ∀ i : Nat, i < d → e.key = .int .i64 (i : Int) → rows.getD i [] = []) ∧ Hid (∀ i, i < d → rows.getD i [] = [] → (i : Int) ∈ ks) ∧ Below w4.heap.size w4 X) (fun X => (leftOf arr (X.iterSeen it)).size)
      case atStart => exact ⟨#[], FL, H10, M10, R10, L10, Lib.hid (fun e _ h => by simp at h), Lib.hid (fun i hi h => absurd h (FNE.out i hi)), B10⟩
      case round =>
        obtain ⟨seen, rows, HI, HMX, HRB, HLO, HSN, HMS, BX⟩ := hrel
        have law := run_next_at (P := Try.prog) wr 0 it mb clock clock seen arr clock HI HMX.heapAt HST.out.1 (Nat.le_refl _)
        rcases law with ⟨h0, hrun⟩ | ⟨e, he, wx, hwx, hrun⟩
        · have hnx : ∀ ty, (Instr.next (.pointer (some ⟨it, 0, none⟩)) false ty).run Try.prog wr = .ok (.tuple #[.bool false]) wr := fun _ => hrun
          have HZ0 := Lib.hid h0
          have HMX' := Lib.hid HMX
          clear hrun HI HMX h0
          obtain ⟨c0, c1, c2⟩ := HK.out _ (belT B4 BX)
          obtain ⟨nk, hnk⟩ : ∃ nk, nk = ks.length := ⟨_, rfl⟩
          have HNK := Lib.hid hnk
          have HML : Hid (((ks.map (fun k => (k, Value.bool true))).length : Int) = (nk : Int)) := by show _ = _; rw [List.length_map, hnk]
          have hnb : nk ≤ bu := by rw [hnk]; exact HKN.out
          have hMM : ∀ i, i < d → rows.getD i [] = [] → i ∈ ks.map Int.toNat := fun i hi hz => List.mem_map.2 ⟨(i : Int), HMS.out i hi hz, by omega⟩
          have HLF : Y.Lost d (Y.fillL l d c r data) rows := by rw [← HFLE.out]; exact HLO.out
          have hTB := Y.take_back HOK.out DW.out D32.out D8.out HLF (ks.map Int.toNat) hMM (by rw [List.length_map, ← hnk, ← HBU.out]; exact hnb)
          have HTB := Lib.hid hTB
          have HMMH := Lib.hid hMM
          have HLFH := Lib.hid HLF
          clear hnk hTB hMM HLF
          go_wp2_with fail
          refine Calls.mono (take_any l d c r _ rows _ HOK.out HRR.out HRB.out.parts HLO.out.1) ?_
          rintro e w12 ⟨hs, b12⟩
          rcases hs with ⟨_, v12, rfl, RB12⟩ | ⟨h, _⟩
          case inr => rw [HTB.out.1] at h; cases h
          rw [HTB.out.2] at RB12
          obtain ⟨a12, k12, he12, _, _⟩ := RB12.parts.shape
          rw [DL.out] at he12
          subst he12
          have HP12 := Lib.hid RB12.parts
          have B12 := belT BX b12
          have BX12 := b12
          clear RB12 c0 c1 c2
          go_wp2_with fail
          refine Calls.mono (same13_any _ _ data data _ HP12.out (HD4.out.up B12)) ?_
          rw [decide_eq_true rfl]
          rintro e w13 ⟨rfl, b13⟩
          have B13 := belT B12 b13
          have bX13 := belT BX12 b13
          have M13 := Lib.hid (HMX'.out.same (bX13.block mb HMX'.out.lt))
          have HMIX := M13.out.toI
          have HRB13 := Lib.hid (HRB.out.up bX13)
          obtain ⟨c0, c1, c2⟩ := HK.out _ (belT B4 B13)
          clear b12 b13
          by_cases hn0 : nk = 0
          · have hnz : decide ((0 : Int) < (nk : Int)) = false := by rw [decide_eq_false_iff_not]; omega
            have hnzP : ((0 : Int) < (nk : Int)) = False := by rw [eq_iff_iff]; exact ⟨fun h => by omega, fun h => h.elim⟩
            have hnzN : ¬ 0 < nk := by omega
            have hnzE : nk = 0 := hn0
            have hnbu : (nk : Int) < (bu : Int) := by omega
            have hlook := fun y => HMIX.look Try.underlying59 Try.underlying3 (HZZ.out w13) y
            have hnone : ∀ y : Int, (getM (ks.map (fun k => (k, Value.bool true))) y).getD (.bool false) = .bool false := fun y => by rw [getM_keys, if_neg (fun h => by have := List.length_pos_of_mem h; have := HNK.out; omega)]; rfl
            have hlook2 : ∀ y : Int, (Instr.lookup 59 (.map (some mb)) (.int .i64 y) false).run Try.prog w13 = .ok (.bool false) w13 := fun y => by rw [hlook y, hnone y]
            clear hlook hnone hn0
            go_wp2_with (at_len; (try refine wpList_unguard (by rfl) ?_); refine wpList_lenI rfl _ 59 rfl 3 4 .i64 Try.underlying59 mb _ rfl HMIX ?_; rw [HML.out])
            refine Calls.mono (within_ex c0' d _ (by omega) hd81 HC0.out) ?_
            rintro e w14 ⟨y, rfl, hy, rfl⟩
            have hl3 := hlook2 (y : Int)
            clear hlook2
            go_wp2_with (at_len; (try refine wpList_unguard (by rfl) ?_); refine wpList_lenI rfl _ 59 rfl 3 4 .i64 Try.underlying59 mb _ rfl HMIX ?_; rw [HML.out])
            refine Calls.mono (wakes13_any _) ?_
            rintro e we ⟨rfl, be⟩
            go_wp2_with fail
            go_ret
            exact ⟨rfl, belT BB.out (belT B4 (belT B13 be))⟩
          · have hnz : decide ((0 : Int) < (nk : Int)) = true := by rw [decide_eq_true_iff]; omega
            have hnzP : ((0 : Int) < (nk : Int)) = True := by rw [eq_iff_iff]; exact ⟨fun _ => trivial, fun _ => by omega⟩
            have hnzN : 0 < nk := by omega
            obtain ⟨z, hzk⟩ : ∃ z, z ∈ ks := by cases hks0 : ks with | nil => (have := HNK.out; rw [hks0] at this; simp at this; omega) | cons z t => exact ⟨z, by simp⟩
            obtain ⟨e0, he0, hk0'⟩ := HMX'.out.entry hzk
            obtain ⟨i0, rfl⟩ := Int.eq_ofNat_of_zero_le (hks.out z hzk).1
            have hi0d : i0 < d := by have := (hks.out _ hzk).2; omega
            have hz0 := HSN.out e0 he0 (left_none HZ0.out he0) i0 hi0d hk0'
            have hRF := Y.lost_right HOK.out DW.out D32.out D8.out HLFH.out (ks.map Int.toNat) HMMH.out (by rw [List.length_map, ← HNK.out, ← HBU.out]; exact hnb) hi0d hz0
            have HRF := Lib.hid hRF
            clear hRF hz0 hk0' he0 hzk hi0d hn0
            go_wp2_with (at_len; (try refine wpList_unguard (by rfl) ?_); refine wpList_lenI rfl _ 59 rfl 3 4 .i64 Try.underlying59 mb _ rfl HMIX ?_; rw [HML.out])
            refine Calls.mono (right_any l d c r _ rows _ HOK.out HRR.out HRB13.out.parts HLO.out.1) ?_
            rw [HRF.out]
            rintro e w14 ⟨rfl, b14⟩
            have B14 := belT B13 b14
            have M14 := Lib.hid (M13.out.same (b14.block mb M13.out.lt))
            have HMIX := M14.out.toI
            have HRB14 := Lib.hid (HRB13.out.up b14)
            clear c0 c1 c2
            obtain ⟨c0, c1, c2⟩ := HK.out _ (belT B4 B14)
            go_wp2_with fail
            refine Calls.mono (within_ex c0' d _ (by omega) hd81 HC0.out) ?_
            rintro e w15 ⟨y, rfl, hy, rfl⟩
            have hlook := HMIX.look Try.underlying59 Try.underlying3 (HZZ.out _) (y : Int)
            rw [getM_keys] at hlook
            have HYD := Lib.hid hy
            have hy0 : (0 : Int) ≤ (y : Int) := by omega
            clear hy
            by_cases hyk : (y : Int) ∈ ks
            · rw [if_pos hyk, Option.getD_some] at hlook
              clear hyk
              go_wp2_with fail
              refine Calls.mono (wakes13_any _) ?_
              rintro e we ⟨rfl, be⟩
              go_wp2_with fail
              go_ret
              exact ⟨rfl, belT BB.out (belT B4 (belT B14 be))⟩
            · rw [if_neg hyk, Option.getD_none] at hlook
              have HYK := Lib.hid hyk
              clear hyk
              by_cases hlb : nk < bu
              · have hlb' : (nk : Int) < (bu : Int) := by omega
                clear hlb
                go_wp2_with (at_len; (try refine wpList_unguard (by rfl) ?_); refine wpList_lenI rfl _ 59 rfl 3 4 .i64 Try.underlying59 mb _ rfl HMIX ?_; rw [HML.out])
                refine Calls.mono (wakes13_any _) ?_
                rintro e we ⟨rfl, be⟩
                go_wp2_with fail
                go_ret
                exact ⟨rfl, belT BB.out (belT B4 (belT B14 be))⟩
              · have hlB : decide ((nk : Int) < (bu : Int)) = false := by rw [decide_eq_false_iff_not]; omega
                have hlP : ((nk : Int) < (bu : Int)) = False := by rw [eq_iff_iff]; exact ⟨fun h => by omega, fun h => h.elim⟩
                clear hlb
                have hyd : y < d := by have := HYD.out; omega
                have hydi : (y : Int) < (d : Int) := HYD.out
                obtain ⟨cz, pz, hcz, hfz, _⟩ := HRB14.out.get (k := y) (by rw [HLO.out.1]; exact hyd)
                have q1 := Lib.hid (RowB.put HRB14.out (k := y) (c := .slice none 0 0) (p := []) (by rw [HLO.out.1]; exact hyd) (Byt.nil _) (.inl rfl))
                obtain ⟨w16, hw16⟩ : ∃ w16, w16 = w14.setCell ⟨g, y, none⟩ (.slice none 0 0) := ⟨_, rfl⟩
                have B16 : Below w4.heap.size w4 w16 := by rw [hw16]; exact B14.setCell (by show w4.heap.size ≤ g; exact hg1) _
                have q1 : Hid (RowB w16 w4.heap.size (.slice (some ⟨g, 0, none⟩) d cap) (rows.set y [])) := by rw [hw16]; exact q1
                obtain ⟨rows2, hr2⟩ : ∃ rows2, rows2 = rows.set y [] := ⟨_, rfl⟩
                rw [← hr2] at q1
                have L2 : Hid (Y.Lost d (Y.fillL l d c r data) rows2) := by rw [hr2]; exact HLFH.out.set y
                clear c0 c1 c2
                obtain ⟨c0, c1, c2⟩ := HK.out _ (belT B4 B16)
                rw [hw16] at c0 c1 c2
                clear hr2 hyd
                go_wp2_with (at_len; (try refine wpList_unguard (by rfl) ?_); refine wpList_lenI rfl _ 59 rfl 3 4 .i64 Try.underlying59 mb _ rfl HMIX ?_; rw [HML.out])
                rw [← hw16]
                refine Calls.mono (HPA.out _) ?_
                rintro e w17 ⟨rfl, b17⟩
                have B17 := belT B16 b17
                have q2 := Lib.hid (q1.out.up b17)
                obtain ⟨p, hp⟩ : ∃ p, p = Y.off d c r 0 := ⟨_, rfl⟩
                obtain ⟨q, hq⟩ : ∃ q, q = qd l d c r := ⟨_, rfl⟩
                rw [← hp, ← hq]
                have HPP := Lib.hid hp
                have HQE := Lib.hid hq
                have HQQ : Hid (∀ i : Nat, i < d → ((i : Int) = q ↔ (l = 6 ∧ i = Y.off d c r 1))) := by
                  intro i hi
                  have hl := HOK.out.1
                  rw [hq]
                  unfold qd
                  split
                  · constructor <;> intro h <;> omega
                  · constructor
                    · intro h; exact ⟨by omega, by omega⟩
                    · rintro ⟨_, h⟩; rw [h]
                have LE := Lib.hid (Y.left_end (rows := rows2) (p := (p : Int)) (q := q) HOK.out L2.out.1 (by rw [hp]) HQQ.out)
                have SB := Lib.hid (Y.lost_fits HOK.out DW.out D32.out L2.out)
                have hpd : p < d := by rw [hp]; exact Y.off_lt (by have := hd8.out; omega)
                clear hp hq hcz hfz c0 c1 c2 hlook hw16 HMIX
                go_wp2_with fail
                go_loopw [26, 144] (fun lf i X => ∃ k : Nat, k ≤ d ∧ i = .int .i64 k ∧ lf = .int .i64 (Y.leftA rows2 (p : Int) q k : Nat) ∧ X = w17) (fun _ i _ => d - (intOf i).toNat)
                case atStart => exact ⟨0, Nat.zero_le _, rfl, rfl, rfl⟩
                case round =>
                  obtain ⟨k, hk, rfl, rfl, rfl⟩ := hrel
                  obtain ⟨lf, hlf⟩ : ∃ lf, lf = Y.leftA rows2 (p : Int) q k := ⟨_, rfl⟩
                  have hlf8 : lf ≤ 8 := by rw [hlf]; have := Y.leftA_le rows2 (p : Int) q k; have := hd8.out; omega
                  rw [← hlf]
                  have HLF := Lib.hid hlf
                  clear hlf
                  by_cases hlt : k < d
                  · have HLT := Lib.hid hlt
                    have hkd : (k : Int) < (d : Int) := by omega
                    have hk0 : (0 : Int) ≤ (k : Int) := by omega
                    have hk1' : IntKind.i64.wrap ((k : Int) + 1) = ((k + 1 : Nat) : Int) := by have := hd8.out; rw [IntKind.wrap_i64]; omega
                    have hlf1 : IntKind.i64.wrap ((lf : Int) + 1) = ((lf + 1 : Nat) : Int) := by rw [IntKind.wrap_i64]; omega
                    obtain ⟨cc, pc, hcc, _, hpc, hyc, _⟩ := q2.out.get (k := k) (by rw [L2.out.1]; exact hlt)
                    obtain ⟨ac, kc, rfl, _, _⟩ := hyc.shape
                    obtain ⟨np, hnp⟩ : ∃ np, np = pc.length := ⟨_, rfl⟩
                    rw [← hnp] at hcc
                    have HNP := Lib.hid hnp
                    have HPC : Hid (rows2.getD k [] = pc) := by show _ = _; rw [List.getD, hpc.out]; rfl
                    clear hnp hlt hyc
                    by_cases hz : np = 0
                    · have hz1 : ((np : Int) == 0) = true := by rw [beq_iff_eq]; omega
                      have HE : Hid (rows2.getD k [] = []) := by show _ = _; rw [HPC.out]; exact List.eq_nil_of_length_eq_zero (by rw [← HNP.out]; exact hz)
                      clear hz
                      by_cases hkp : (k : Int) = (p : Int)
                      · have h2 : ((k : Int) != (p : Int)) = false := by rw [hkp]; simp
                        have HKP := Lib.hid hkp
                        clear hkp
                        go_wp2_with fail
                        go_roundw
                        case rel => exact ⟨k + 1, HLT.out, by go_num, by rw [Y.leftA_no (fun h => h.2.1 HKP.out), ← HLF.out], by first | rfl | trivial⟩
                        case measure => have := HLT.out; simp [intOf]; omega
                      · have h2 : ((k : Int) != (p : Int)) = true := by rw [bne_iff_ne]; exact hkp
                        have HKP := Lib.hid hkp
                        clear hkp
                        by_cases hkq : (k : Int) = q
                        · have h3 : ((k : Int) != q) = false := by rw [hkq]; simp
                          have HKQ := Lib.hid hkq
                          clear hkq
                          go_wp2_with fail
                          go_roundw
                          case rel => exact ⟨k + 1, HLT.out, by go_num, by rw [Y.leftA_no (fun h => h.2.2 HKQ.out), ← HLF.out], by first | rfl | trivial⟩
                          case measure => have := HLT.out; simp [intOf]; omega
                        · have h3 : ((k : Int) != q) = true := by rw [bne_iff_ne]; exact hkq
                          have HKQ := Lib.hid hkq
                          clear hkq
                          go_wp2_with fail
                          go_roundw
                          case rel => exact ⟨k + 1, HLT.out, by go_num, by rw [Y.leftA_yes ⟨HE.out, HKP.out, HKQ.out⟩, ← HLF.out]; go_num, by first | rfl | trivial⟩
                          case measure => have := HLT.out; simp [intOf]; omega
                    · have hz1 : ((np : Int) == 0) = false := by rw [beq_eq_false_iff_ne]; omega
                      have HZ := Lib.hid hz
                      clear hz
                      go_wp2_with fail
                      go_roundw
                      case rel => exact ⟨k + 1, HLT.out, by go_num, by rw [Y.leftA_no (fun h => HZ.out (by rw [HNP.out, ← HPC.out, h.1]; rfl)), ← HLF.out], by first | rfl | trivial⟩
                      case measure => have := HLT.out; simp [intOf]; omega
                  · have hkB : decide ((k : Int) < (d : Int)) = false := by rw [decide_eq_false_iff_not]; omega
                    have hkP : ((k : Int) < (d : Int)) = False := by rw [eq_iff_iff]; exact ⟨fun h => by omega, fun h => h.elim⟩
                    have ek : k = d := by omega
                    have HLM : Hid (lf = (Y.missL (Y.takeL l d c r rows2)).length) := by show _ = _; rw [HLF.out, ek, LE.out]
                    clear ek hlt hk
                    obtain ⟨cp, pp, hcp, _, hpp, hyp, _⟩ := q2.out.get (k := p) (by rw [L2.out.1]; exact hpd)
                    obtain ⟨ap, kp, rfl, _, _⟩ := hyp.shape
                    obtain ⟨np, hnp⟩ : ∃ np, np = pp.length := ⟨_, rfl⟩
                    rw [← hnp] at hcp
                    have HPOF : Hid (Y.pOf d c r rows2 = pp) := by show _ = _; unfold Y.pOf; rw [← HPP.out, List.getD, hpp.out]; rfl
                    have HNP := Lib.hid hnp
                    have hpdi : (p : Int) < (d : Int) := by omega
                    have hp0 : (0 : Int) ≤ (p : Int) := by omega
                    obtain ⟨c0, c1, c2⟩ := HK.out _ (belT B4 B17)
                    clear hnp hyp
                    have hl56 := HOK.out.1
                    by_cases hpz : np = 0
                    · have hp1 : decide ((0 : Int) < (np : Int)) = false := by rw [decide_eq_false_iff_not]; omega
                      have hp1P : ((0 : Int) < (np : Int)) = False := by rw [eq_iff_iff]; exact ⟨fun h => by omega, fun h => h.elim⟩
                      have hp1N : ¬ 0 < np := by omega
                      have HPE : Hid (pp = []) := Lib.hid (List.eq_nil_of_length_eq_zero (by rw [← HNP.out]; exact hpz))
                      clear hpz
                      rcases hl56 with ⟨h5, _⟩ | ⟨h6, _⟩
                      · have hqv : q = -1 := by rw [HQE.out]; unfold qd; rw [if_pos h5]
                        subst hqv
                        have HL5 := Lib.hid h5
                        clear h5
                        have HTH : Hid (Y.thereN l d c r rows2 = 0) := by show _ = _; unfold Y.thereN; rw [HPOF.out, if_pos HPE.out]; rw [if_pos (by unfold Y.qOf; rw [if_neg (by have := HL5.out; omega)])]
                        by_cases hle : lf ≤ 0
                        · have h9 : ((lf : Int) ≤ 0) = True := by rw [eq_iff_iff]; exact ⟨fun _ => trivial, fun _ => by omega⟩
                          have h9d : decide ((lf : Int) ≤ 0) = true := by rw [decide_eq_true_iff]; omega
                          have h9n : lf = 0 := by omega
                          have hsb : Y.solveB ((32 : Nat) : Int) (Y.pOf d c r rows2) (Y.qOf l d c r rows2) (Y.takeL l d c r rows2) = true := by rw [SB.out, HTH.out, ← HLM.out]; exact decide_eq_true hle
                          have HSB := Lib.hid hsb
                          clear hsb hle
                          go_wp2_with fail
                          refine Calls.mono (take_any l d c r _ rows2 _ HOK.out HRR.out q2.out.parts L2.out.1) ?_
                          rintro e w18 ⟨hs, b18⟩
                          rcases hs with ⟨h, v18, rfl, _⟩ | ⟨h, rfl⟩
                          · have B18 := belT B17 b18
                            go_wp2_with fail
                            refine Calls.mono (wakes13_any _) ?_
                            rintro e we ⟨rfl, be⟩
                            go_wp2_with fail
                            go_ret
                            exact ⟨rfl, belT BB.out (belT B4 (belT B18 be))⟩
                          · rw [HSB.out] at h; cases h
                        · have h9 : ((lf : Int) ≤ 0) = False := by rw [eq_iff_iff]; exact ⟨fun h => by omega, fun h => h.elim⟩
                          have h9d : decide ((lf : Int) ≤ 0) = false := by rw [decide_eq_false_iff_not]; omega
                          have h9n : ¬ lf = 0 := by omega
                          have h9i : ¬ (lf : Int) = 0 := by omega
                          have hsb : Y.solveB ((32 : Nat) : Int) (Y.pOf d c r rows2) (Y.qOf l d c r rows2) (Y.takeL l d c r rows2) = false := by rw [SB.out, HTH.out, ← HLM.out]; exact decide_eq_false hle
                          have HSB := Lib.hid hsb
                          clear hsb hle
                          go_wp2_with fail
                          refine Calls.mono (take_any l d c r _ rows2 _ HOK.out HRR.out q2.out.parts L2.out.1) ?_
                          rintro e w18 ⟨hs, b18⟩
                          rcases hs with ⟨h, v18, rfl, _⟩ | ⟨h, rfl⟩
                          · rw [HSB.out] at h; cases h
                          · have B18 := belT B17 b18
                            go_wp2_with fail
                            refine Calls.mono (wakes13_any _) ?_
                            rintro e we ⟨rfl, be⟩
                            go_wp2_with fail
                            go_ret
                            exact ⟨rfl, belT BB.out (belT B4 (belT B18 be))⟩
                      · have hqv : q = ((Y.off d c r 1 : Nat) : Int) := by rw [HQE.out]; unfold qd; rw [if_neg (by omega)]
                        obtain ⟨o1, ho1⟩ : ∃ o1, o1 = Y.off d c r 1 := ⟨_, rfl⟩
                        rw [← ho1] at hqv
                        subst hqv
                        have ho1d : o1 < d := by rw [ho1]; exact Y.off_lt (by have := hd8.out; omega)
                        obtain ⟨cq, pq, hcq, _, hpq, hyq, _⟩ := q2.out.get (k := o1) (by rw [L2.out.1]; exact ho1d)
                        obtain ⟨aq, kq, rfl, _, _⟩ := hyq.shape
                        obtain ⟨nq, hnq⟩ : ∃ nq, nq = pq.length := ⟨_, rfl⟩
                        rw [← hnq] at hcq
                        have HQOF : Hid (Y.qOf l d c r rows2 = pq) := by show _ = _; unfold Y.qOf; rw [if_pos h6, ← ho1, List.getD, hpq.out]; rfl
                        have HNQ := Lib.hid hnq
                        have ho1i : (o1 : Int) < (d : Int) := by omega
                        have ho10 : (0 : Int) ≤ (o1 : Int) := by omega
                        clear hnq hyq h6 ho1
                        by_cases hqz : nq = 0
                        · have hq1 : decide ((0 : Int) < (nq : Int)) = false := by rw [decide_eq_false_iff_not]; omega
                          have hq1P : ((0 : Int) < (nq : Int)) = False := by rw [eq_iff_iff]; exact ⟨fun h => by omega, fun h => h.elim⟩
                          have hq1N : ¬ 0 < nq := by omega
                          have HQEm : Hid (pq = []) := Lib.hid (List.eq_nil_of_length_eq_zero (by rw [← HNQ.out]; exact hqz))
                          clear hqz
                          have HTH : Hid (Y.thereN l d c r rows2 = 0) := by show _ = _; unfold Y.thereN; rw [HPOF.out, if_pos HPE.out]; rw [HQOF.out, if_pos HQEm.out]
                          by_cases hle : lf ≤ 0
                          · have h9 : ((lf : Int) ≤ 0) = True := by rw [eq_iff_iff]; exact ⟨fun _ => trivial, fun _ => by omega⟩
                            have h9d : decide ((lf : Int) ≤ 0) = true := by rw [decide_eq_true_iff]; omega
                            have h9n : lf = 0 := by omega
                            have hsb : Y.solveB ((32 : Nat) : Int) (Y.pOf d c r rows2) (Y.qOf l d c r rows2) (Y.takeL l d c r rows2) = true := by rw [SB.out, HTH.out, ← HLM.out]; exact decide_eq_true hle
                            have HSB := Lib.hid hsb
                            clear hsb hle
                            go_wp2_with fail
                            refine Calls.mono (take_any l d c r _ rows2 _ HOK.out HRR.out q2.out.parts L2.out.1) ?_
                            rintro e w18 ⟨hs, b18⟩
                            rcases hs with ⟨h, v18, rfl, _⟩ | ⟨h, rfl⟩
                            · have B18 := belT B17 b18
                              go_wp2_with fail
                              refine Calls.mono (wakes13_any _) ?_
                              rintro e we ⟨rfl, be⟩
                              go_wp2_with fail
                              go_ret
                              exact ⟨rfl, belT BB.out (belT B4 (belT B18 be))⟩
                            · rw [HSB.out] at h; cases h
                          · have h9 : ((lf : Int) ≤ 0) = False := by rw [eq_iff_iff]; exact ⟨fun h => by omega, fun h => h.elim⟩
                            have h9d : decide ((lf : Int) ≤ 0) = false := by rw [decide_eq_false_iff_not]; omega
                            have h9n : ¬ lf = 0 := by omega
                            have h9i : ¬ (lf : Int) = 0 := by omega
                            have hsb : Y.solveB ((32 : Nat) : Int) (Y.pOf d c r rows2) (Y.qOf l d c r rows2) (Y.takeL l d c r rows2) = false := by rw [SB.out, HTH.out, ← HLM.out]; exact decide_eq_false hle
                            have HSB := Lib.hid hsb
                            clear hsb hle
                            go_wp2_with fail
                            refine Calls.mono (take_any l d c r _ rows2 _ HOK.out HRR.out q2.out.parts L2.out.1) ?_
                            rintro e w18 ⟨hs, b18⟩
                            rcases hs with ⟨h, v18, rfl, _⟩ | ⟨h, rfl⟩
                            · rw [HSB.out] at h; cases h
                            · have B18 := belT B17 b18
                              go_wp2_with fail
                              refine Calls.mono (wakes13_any _) ?_
                              rintro e we ⟨rfl, be⟩
                              go_wp2_with fail
                              go_ret
                              exact ⟨rfl, belT BB.out (belT B4 (belT B18 be))⟩
                        · have hq1 : decide ((0 : Int) < (nq : Int)) = true := by rw [decide_eq_true_iff]; omega
                          have hq1P : ((0 : Int) < (nq : Int)) = True := by rw [eq_iff_iff]; exact ⟨fun _ => trivial, fun _ => by omega⟩
                          have hq1N : 0 < nq := by omega
                          have HQEm : Hid (pq ≠ []) := Lib.hid (fun e => hqz (by rw [HNQ.out, e]; rfl))
                          clear hqz
                          have HTH : Hid (Y.thereN l d c r rows2 = 1) := by show _ = _; unfold Y.thereN; rw [HPOF.out, if_pos HPE.out]; rw [HQOF.out, if_neg HQEm.out]
                          by_cases hle : lf ≤ 1
                          · have h9 : ((lf : Int) ≤ 1) = True := by rw [eq_iff_iff]; exact ⟨fun _ => trivial, fun _ => by omega⟩
                            have h9d : decide ((lf : Int) ≤ 1) = true := by rw [decide_eq_true_iff]; omega
                            have hsb : Y.solveB ((32 : Nat) : Int) (Y.pOf d c r rows2) (Y.qOf l d c r rows2) (Y.takeL l d c r rows2) = true := by rw [SB.out, HTH.out, ← HLM.out]; exact decide_eq_true hle
                            have HSB := Lib.hid hsb
                            clear hsb hle
                            go_wp2_with fail
                            refine Calls.mono (take_any l d c r _ rows2 _ HOK.out HRR.out q2.out.parts L2.out.1) ?_
                            rintro e w18 ⟨hs, b18⟩
                            rcases hs with ⟨h, v18, rfl, _⟩ | ⟨h, rfl⟩
                            · have B18 := belT B17 b18
                              go_wp2_with fail
                              refine Calls.mono (wakes13_any _) ?_
                              rintro e we ⟨rfl, be⟩
                              go_wp2_with fail
                              go_ret
                              exact ⟨rfl, belT BB.out (belT B4 (belT B18 be))⟩
                            · rw [HSB.out] at h; cases h
                          · have h9 : ((lf : Int) ≤ 1) = False := by rw [eq_iff_iff]; exact ⟨fun h => by omega, fun h => h.elim⟩
                            have h9d : decide ((lf : Int) ≤ 1) = false := by rw [decide_eq_false_iff_not]; omega
                            have hsb : Y.solveB ((32 : Nat) : Int) (Y.pOf d c r rows2) (Y.qOf l d c r rows2) (Y.takeL l d c r rows2) = false := by rw [SB.out, HTH.out, ← HLM.out]; exact decide_eq_false hle
                            have HSB := Lib.hid hsb
                            clear hsb hle
                            go_wp2_with fail
                            refine Calls.mono (take_any l d c r _ rows2 _ HOK.out HRR.out q2.out.parts L2.out.1) ?_
                            rintro e w18 ⟨hs, b18⟩
                            rcases hs with ⟨h, v18, rfl, _⟩ | ⟨h, rfl⟩
                            · rw [HSB.out] at h; cases h
                            · have B18 := belT B17 b18
                              go_wp2_with fail
                              refine Calls.mono (wakes13_any _) ?_
                              rintro e we ⟨rfl, be⟩
                              go_wp2_with fail
                              go_ret
                              exact ⟨rfl, belT BB.out (belT B4 (belT B18 be))⟩
                    · have hp1 : decide ((0 : Int) < (np : Int)) = true := by rw [decide_eq_true_iff]; omega
                      have hp1P : ((0 : Int) < (np : Int)) = True := by rw [eq_iff_iff]; exact ⟨fun _ => trivial, fun _ => by omega⟩
                      have hp1N : 0 < np := by omega
                      have HPE : Hid (pp ≠ []) := Lib.hid (fun e => hpz (by rw [HNP.out, e]; rfl))
                      clear hpz
                      rcases hl56 with ⟨h5, _⟩ | ⟨h6, _⟩
                      · have hqv : q = -1 := by rw [HQE.out]; unfold qd; rw [if_pos h5]
                        subst hqv
                        have HL5 := Lib.hid h5
                        clear h5
                        have HTH : Hid (Y.thereN l d c r rows2 = 1) := by show _ = _; unfold Y.thereN; rw [HPOF.out, if_neg HPE.out]; rw [if_pos (by unfold Y.qOf; rw [if_neg (by have := HL5.out; omega)])]
                        by_cases hle : lf ≤ 1
                        · have h9 : ((lf : Int) ≤ 1) = True := by rw [eq_iff_iff]; exact ⟨fun _ => trivial, fun _ => by omega⟩
                          have h9d : decide ((lf : Int) ≤ 1) = true := by rw [decide_eq_true_iff]; omega
                          have hsb : Y.solveB ((32 : Nat) : Int) (Y.pOf d c r rows2) (Y.qOf l d c r rows2) (Y.takeL l d c r rows2) = true := by rw [SB.out, HTH.out, ← HLM.out]; exact decide_eq_true hle
                          have HSB := Lib.hid hsb
                          clear hsb hle
                          go_wp2_with fail
                          refine Calls.mono (take_any l d c r _ rows2 _ HOK.out HRR.out q2.out.parts L2.out.1) ?_
                          rintro e w18 ⟨hs, b18⟩
                          rcases hs with ⟨h, v18, rfl, _⟩ | ⟨h, rfl⟩
                          · have B18 := belT B17 b18
                            go_wp2_with fail
                            refine Calls.mono (wakes13_any _) ?_
                            rintro e we ⟨rfl, be⟩
                            go_wp2_with fail
                            go_ret
                            exact ⟨rfl, belT BB.out (belT B4 (belT B18 be))⟩
                          · rw [HSB.out] at h; cases h
                        · have h9 : ((lf : Int) ≤ 1) = False := by rw [eq_iff_iff]; exact ⟨fun h => by omega, fun h => h.elim⟩
                          have h9d : decide ((lf : Int) ≤ 1) = false := by rw [decide_eq_false_iff_not]; omega
                          have hsb : Y.solveB ((32 : Nat) : Int) (Y.pOf d c r rows2) (Y.qOf l d c r rows2) (Y.takeL l d c r rows2) = false := by rw [SB.out, HTH.out, ← HLM.out]; exact decide_eq_false hle
                          have HSB := Lib.hid hsb
                          clear hsb hle
                          go_wp2_with fail
                          refine Calls.mono (take_any l d c r _ rows2 _ HOK.out HRR.out q2.out.parts L2.out.1) ?_
                          rintro e w18 ⟨hs, b18⟩
                          rcases hs with ⟨h, v18, rfl, _⟩ | ⟨h, rfl⟩
                          · rw [HSB.out] at h; cases h
                          · have B18 := belT B17 b18
                            go_wp2_with fail
                            refine Calls.mono (wakes13_any _) ?_
                            rintro e we ⟨rfl, be⟩
                            go_wp2_with fail
                            go_ret
                            exact ⟨rfl, belT BB.out (belT B4 (belT B18 be))⟩
                      · have hqv : q = ((Y.off d c r 1 : Nat) : Int) := by rw [HQE.out]; unfold qd; rw [if_neg (by omega)]
                        obtain ⟨o1, ho1⟩ : ∃ o1, o1 = Y.off d c r 1 := ⟨_, rfl⟩
                        rw [← ho1] at hqv
                        subst hqv
                        have ho1d : o1 < d := by rw [ho1]; exact Y.off_lt (by have := hd8.out; omega)
                        obtain ⟨cq, pq, hcq, _, hpq, hyq, _⟩ := q2.out.get (k := o1) (by rw [L2.out.1]; exact ho1d)
                        obtain ⟨aq, kq, rfl, _, _⟩ := hyq.shape
                        obtain ⟨nq, hnq⟩ : ∃ nq, nq = pq.length := ⟨_, rfl⟩
                        rw [← hnq] at hcq
                        have HQOF : Hid (Y.qOf l d c r rows2 = pq) := by show _ = _; unfold Y.qOf; rw [if_pos h6, ← ho1, List.getD, hpq.out]; rfl
                        have HNQ := Lib.hid hnq
                        have ho1i : (o1 : Int) < (d : Int) := by omega
                        have ho10 : (0 : Int) ≤ (o1 : Int) := by omega
                        clear hnq hyq h6 ho1
                        by_cases hqz : nq = 0
                        · have hq1 : decide ((0 : Int) < (nq : Int)) = false := by rw [decide_eq_false_iff_not]; omega
                          have hq1P : ((0 : Int) < (nq : Int)) = False := by rw [eq_iff_iff]; exact ⟨fun h => by omega, fun h => h.elim⟩
                          have hq1N : ¬ 0 < nq := by omega
                          have HQEm : Hid (pq = []) := Lib.hid (List.eq_nil_of_length_eq_zero (by rw [← HNQ.out]; exact hqz))
                          clear hqz
                          have HTH : Hid (Y.thereN l d c r rows2 = 1) := by show _ = _; unfold Y.thereN; rw [HPOF.out, if_neg HPE.out]; rw [HQOF.out, if_pos HQEm.out]
                          by_cases hle : lf ≤ 1
                          · have h9 : ((lf : Int) ≤ 1) = True := by rw [eq_iff_iff]; exact ⟨fun _ => trivial, fun _ => by omega⟩
                            have h9d : decide ((lf : Int) ≤ 1) = true := by rw [decide_eq_true_iff]; omega
                            have hsb : Y.solveB ((32 : Nat) : Int) (Y.pOf d c r rows2) (Y.qOf l d c r rows2) (Y.takeL l d c r rows2) = true := by rw [SB.out, HTH.out, ← HLM.out]; exact decide_eq_true hle
                            have HSB := Lib.hid hsb
                            clear hsb hle
                            go_wp2_with fail
                            refine Calls.mono (take_any l d c r _ rows2 _ HOK.out HRR.out q2.out.parts L2.out.1) ?_
                            rintro e w18 ⟨hs, b18⟩
                            rcases hs with ⟨h, v18, rfl, _⟩ | ⟨h, rfl⟩
                            · have B18 := belT B17 b18
                              go_wp2_with fail
                              refine Calls.mono (wakes13_any _) ?_
                              rintro e we ⟨rfl, be⟩
                              go_wp2_with fail
                              go_ret
                              exact ⟨rfl, belT BB.out (belT B4 (belT B18 be))⟩
                            · rw [HSB.out] at h; cases h
                          · have h9 : ((lf : Int) ≤ 1) = False := by rw [eq_iff_iff]; exact ⟨fun h => by omega, fun h => h.elim⟩
                            have h9d : decide ((lf : Int) ≤ 1) = false := by rw [decide_eq_false_iff_not]; omega
                            have hsb : Y.solveB ((32 : Nat) : Int) (Y.pOf d c r rows2) (Y.qOf l d c r rows2) (Y.takeL l d c r rows2) = false := by rw [SB.out, HTH.out, ← HLM.out]; exact decide_eq_false hle
                            have HSB := Lib.hid hsb
                            clear hsb hle
                            go_wp2_with fail
                            refine Calls.mono (take_any l d c r _ rows2 _ HOK.out HRR.out q2.out.parts L2.out.1) ?_
                            rintro e w18 ⟨hs, b18⟩
                            rcases hs with ⟨h, v18, rfl, _⟩ | ⟨h, rfl⟩
                            · rw [HSB.out] at h; cases h
                            · have B18 := belT B17 b18
                              go_wp2_with fail
                              refine Calls.mono (wakes13_any _) ?_
                              rintro e we ⟨rfl, be⟩
                              go_wp2_with fail
                              go_ret
                              exact ⟨rfl, belT BB.out (belT B4 (belT B18 be))⟩
                        · have hq1 : decide ((0 : Int) < (nq : Int)) = true := by rw [decide_eq_true_iff]; omega
                          have hq1P : ((0 : Int) < (nq : Int)) = True := by rw [eq_iff_iff]; exact ⟨fun _ => trivial, fun _ => by omega⟩
                          have hq1N : 0 < nq := by omega
                          have HQEm : Hid (pq ≠ []) := Lib.hid (fun e => hqz (by rw [HNQ.out, e]; rfl))
                          clear hqz
                          have HTH : Hid (Y.thereN l d c r rows2 = 2) := by show _ = _; unfold Y.thereN; rw [HPOF.out, if_neg HPE.out]; rw [HQOF.out, if_neg HQEm.out]
                          by_cases hle : lf ≤ 2
                          · have h9 : ((lf : Int) ≤ 2) = True := by rw [eq_iff_iff]; exact ⟨fun _ => trivial, fun _ => by omega⟩
                            have h9d : decide ((lf : Int) ≤ 2) = true := by rw [decide_eq_true_iff]; omega
                            have hsb : Y.solveB ((32 : Nat) : Int) (Y.pOf d c r rows2) (Y.qOf l d c r rows2) (Y.takeL l d c r rows2) = true := by rw [SB.out, HTH.out, ← HLM.out]; exact decide_eq_true hle
                            have HSB := Lib.hid hsb
                            clear hsb hle
                            go_wp2_with fail
                            refine Calls.mono (take_any l d c r _ rows2 _ HOK.out HRR.out q2.out.parts L2.out.1) ?_
                            rintro e w18 ⟨hs, b18⟩
                            rcases hs with ⟨h, v18, rfl, _⟩ | ⟨h, rfl⟩
                            · have B18 := belT B17 b18
                              go_wp2_with fail
                              refine Calls.mono (wakes13_any _) ?_
                              rintro e we ⟨rfl, be⟩
                              go_wp2_with fail
                              go_ret
                              exact ⟨rfl, belT BB.out (belT B4 (belT B18 be))⟩
                            · rw [HSB.out] at h; cases h
                          · have h9 : ((lf : Int) ≤ 2) = False := by rw [eq_iff_iff]; exact ⟨fun h => by omega, fun h => h.elim⟩
                            have h9d : decide ((lf : Int) ≤ 2) = false := by rw [decide_eq_false_iff_not]; omega
                            have hsb : Y.solveB ((32 : Nat) : Int) (Y.pOf d c r rows2) (Y.qOf l d c r rows2) (Y.takeL l d c r rows2) = false := by rw [SB.out, HTH.out, ← HLM.out]; exact decide_eq_false hle
                            have HSB := Lib.hid hsb
                            clear hsb hle
                            go_wp2_with fail
                            refine Calls.mono (take_any l d c r _ rows2 _ HOK.out HRR.out q2.out.parts L2.out.1) ?_
                            rintro e w18 ⟨hs, b18⟩
                            rcases hs with ⟨h, v18, rfl, _⟩ | ⟨h, rfl⟩
                            · rw [HSB.out] at h; cases h
                            · have B18 := belT B17 b18
                              go_wp2_with fail
                              refine Calls.mono (wakes13_any _) ?_
                              rintro e we ⟨rfl, be⟩
                              go_wp2_with fail
                              go_ret
                              exact ⟨rfl, belT BB.out (belT B4 (belT B18 be))⟩
        · obtain ⟨hea, hes⟩ := mem_left he
          obtain ⟨kz, hkz, hkey, _⟩ := HMX.keys hea
          obtain ⟨i, rfl⟩ := Int.eq_ofNat_of_zero_le (hks.out kz hkz).1
          have hid : (i : Int) < (d : Int) := (hks.out _ hkz).2
          have hidn : i < d := by omega
          have hi0 : (0 : Int) ≤ (i : Int) := by omega
          obtain ⟨wy, hwy⟩ : ∃ wy, wy = Go.ChangeMaps.setBlock wx it (.mapIter (some mb) clock (seen.push e.born) clock) := ⟨_, rfl⟩
          rw [← hwy] at hrun
          have hFx : Fr (fun b => b = it) wr wx := by rcases hwx with rfl | rfl; exact Fr.refl _ _; exact Fr.drew _
          have hFy : Fr (fun b => b = it) wr wy := by rw [hwy]; exact hFx.trans (set_rows _ _ _)
          have hIx : wx.heap[it]? = some (.mapIter (some mb) clock seen clock) := by rcases hwx with rfl | rfl; exact HI; exact HI
          have hIy : wy.heap[it]? = some (.mapIter (some mb) clock (seen.push e.born) clock) := by
            rw [hwy]
            show (wx.heap.setIfInBounds it _)[it]? = _
            exact (MapKept.heap_set hIx).1
          have hitl : it < wr.heap.size := (Array.getElem?_eq_some_iff.1 HI).1
          have hMy : MapR wy mb arr clock ks := HMX.same (hFy.block mb (by omega) (by omega))
          have hRy := Lib.hid (HRB.out.iter hFy HI)
          have hBy : Below w4.heap.size w4 wy := Fr.below BX hFy BX.size (fun j hj => by rw [hj]; exact h4it)
          have hnx : ∀ ty, (Instr.next (.pointer (some ⟨it, 0, none⟩)) false ty).run Try.prog wr = .ok (.tuple #[.bool true, .int .i64 (i : Int), e.val]) wy := fun _ => by rw [← hkey]; exact hrun
          have hen : (Instr.entry (.pointer (some ⟨it, 0, none⟩))).run Try.prog wy = .ok (.tuple #[.int .i64 (i : Int), e.val]) wy := by rw [← hkey]; exact run_entry_at wy it mb clock seen arr clock e hIy hMy.heapAt hea HST.out.2
          obtain ⟨ev, hev⟩ : ∃ ev, ev = e.val := ⟨_, rfl⟩
          rw [← hev] at hnx hen
          obtain ⟨cz, pz, hcz, hfz, _⟩ := hRy.out.get (k := i) (by rw [HLO.out.1]; exact hidn)
          have q1 := Lib.hid (RowB.put hRy.out (k := i) (c := .slice none 0 0) (p := []) (by rw [HLO.out.1]; exact hidn) (Byt.nil _) (.inl rfl))
          have hgw : g < wy.heap.size := by have := hFy.size; omega
          have HEA := Lib.hid hea
          have HES := Lib.hid hes
          have HKEY := Lib.hid hkey
          have HKZ := Lib.hid hkz
          have HIDN := Lib.hid hidn
          have HE := Lib.hid he
          have HI' := Lib.hid HI
          have HIy := Lib.hid hIy
          have HMy := Lib.hid hMy
          have hitn : Hid (it ≠ g) := Lib.hid (by omega)
          have hmbn : Hid (mb ≠ g) := Lib.hid (by have := hgm.out; omega)
          have hitl2 : Hid (it < wy.heap.size ∧ mb < wy.heap.size) := Lib.hid (by have := hFy.size; exact ⟨by omega, by omega⟩)
          have B11 : Below w4.heap.size w4 (wy.setCell ⟨g, i, none⟩ (.slice none 0 0)) := hBy.setCell (by show w4.heap.size ≤ g; exact hg1) _
          clear hev hwy hFx hFy hIx hwx hrun hitl hkey hkz hidn hes hea he HI hIy hMy HMX hgw
          go_wp2
          go_roundw
          case rel =>
            refine ⟨seen.push e.born, rows.set i [], ?_, HMy.out.same ?_, q1, Lib.hid (HLO.out.set i), Lib.hid (fun x hx hsx j hj hjk => ?_), Lib.hid (fun j hj hz => ?_), B11⟩
            · rw [(Fr.cell (w := wy) ⟨g, i, none⟩ (.slice none 0 0)).block it hitl2.out.1 (fun e => hitn.out e)]; exact HIy.out
            · exact (Fr.cell (w := wy) ⟨g, i, none⟩ (.slice none 0 0)).block mb hitl2.out.2 (fun e => hmbn.out e)
            · rw [Y.getD_set _ _ _ _ (by rw [HLO.out.1]; exact hj)]
              split
              · rfl
              · rename_i hne
                rw [contains_push] at hsx
                rcases Bool.or_eq_true _ _ ▸ hsx with h | h
                · exact HSN.out x hx h j hj hjk
                · have hb : x.born = e.born := beq_iff_eq.1 h
                  have hxe : x = e := by
                    have h1 := find_born x arr.toList HST.out.2 hx
                    have h2 := find_born e arr.toList HST.out.2 HEA.out
                    rw [hb, h2] at h1
                    exact (Option.some.inj h1).symm
                  rw [hxe, HKEY.out] at hjk
                  cases hjk
                  omega
            · rw [Y.getD_set _ _ _ _ (by rw [HLO.out.1]; exact hj)] at hz
              by_cases hij : i = j
              · rw [← hij]; exact HKZ.out
              · rw [if_neg hij] at hz
                exact HMS.out j hj hz
          case measure =>
            have e1 : (wy.setCell ⟨g, i, none⟩ (.slice none 0 0)).iterSeen it = seen.push e.born := iterSeen_of (by rw [(Fr.cell (w := wy) ⟨g, i, none⟩ (.slice none 0 0)).block it hitl2.out.1 (fun e => hitn.out e)]; exact HIy.out)
            rw [e1, iterSeen_of HI'.out]
            exact left_shrinks arr seen e HE.out
end Go.Proofs.Ytknodcaknopcnaa
