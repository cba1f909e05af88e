/- The walks of the laws of chapter 1 (crc): each answers true at every input. -/
import Derived.Test.YtghbbceephcifaaCrcRef
import Derived.Test.YtghbbceephcifaaZero
namespace Go.Proofs.Ytghbbceephcifaa
open Go.RowKit C
set_option linter.unusedVariables false
set_option linter.unusedSimpArgs false
set_option maxRecDepth 100000
set_option maxHeartbeats 2000000

theorem crc_digits : crc [[49, 50, 51, 52, 53, 54, 55, 56, 57]] = 3808858755 := by decide +kernel
theorem wakes1_any (w : World) : Calls Try.prog 18 #[] w fun e w' => e = .returned (.bool true) ∧ Below w.heap.size w w' := by
  have kc := fun (w : World) (C : Array Value) (n c : Nat) => Lib.run_convert_bytes_const (P := Try.prog) w 23 5 C n c Try.underlying23 Try.underlying5
  go_enter Try.func18, Try.ntmps18
  go_wp2_with fail
  refine Calls.mono (sum_any _ _ _ (Parts.lit1 ?_ (Byt.lit (n := 9) w #[.int .u8 49, .int .u8 50, .int .u8 51, .int .u8 52, .int .u8 53, .int .u8 54, .int .u8 55, .int .u8 56, .int .u8 57] 5 [49, 50, 51, 52, 53, 54, 55, 56, 57] rfl rfl rfl (by decide) (by decide)))) ?_
  · simp
  rw [crc_digits]
  rintro e w' ⟨rfl, rfl⟩
  go_wp2_with fail
  go_ret
  exact ⟨rfl, belAlloc (belAlloc (Below.refl _ _) _) _⟩

theorem crcTells_walk (va vb vc : Value) (a b c : List Nat) (full : Bool) (w : World) (ha : Byt w va a) (hb : Byt w vb b) (hc : Byt w vc c) :
    Calls Try.prog 6 #[va, vb, vc, .bool full] w fun e w' => e = .returned (.bool true) ∧ Below w.heap.size w w' := by
  obtain ⟨j0, hj, hy0, hy1, hy2⟩ := info_parts uint8_info
  go_enter Try.func6, Try.ntmps6
  go_wp2_with fail
  refine (cut_ex va a 60 w ha (by decide)).mono ?_
  rintro e w1 ⟨v1, la, rfl, _, ha1, la60, b1⟩
  go_wp2_with fail
  refine (cut_ex vb b 60 w1 (hb.up b1) (by decide)).mono ?_
  rintro e w2 ⟨v2, lb, rfl, _, hb1, lb60, b2⟩
  go_wp2_with fail
  refine (cut_ex vc c 60 w2 (hc.up (belT b1 b2)) (by decide)).mono ?_
  rintro e w3 ⟨v3, lc, rfl, _, hc1, lc60, b3⟩
  have c3 : Below w.heap.size w w3 := belT (belT b1 b2) b3
  have A3 : Own w3 w.heap.size v1 la := ha1.up (belT b2 b3)
  have B3o : Own w3 w1.heap.size v2 lb := hb1.up b3
  have C3o : Own w3 w2.heap.size v3 lc := hc1
  have lt1 := ha1.lt
  have lt2 : w1.heap.size ≤ w2.heap.size := b2.size
  clear ha hb hc ha1 hb1 hc1 b1 b2 b3
  obtain ⟨ao1, cap1, rfl, q1, q2⟩ := A3.byt.shape
  obtain ⟨ao2, cap2, rfl, _, _⟩ := B3o.byt.shape
  obtain ⟨ao3, cap3, rfl, _, _⟩ := C3o.byt.shape
  cases full with
  | true =>
    go_wp2_with (at_builtin; go_loud (refine wpList_append_zeros rfl _ _ 23 3 rfl w.heap.size 5 j0 (.int .u8 0) 1 1 .i64 .i64 Try.underlying23 Try.underlying3 hj hy0 hy1 hy2 rfl (by decide) zero_one _ _ _ rfl A3.2 60 rfl (by decide) (by simp [maxLen]; omega) (by omega) c3.size ?_); intro v4 w4 o4 g4; obtain ⟨g, cap4, rfl, h41, h42, h43, h44⟩ := own_shape o4 (by omega))
    have c4 : Below w.heap.size w w4 := belG c3 g4 (fun g hg => A3.ge g hg)
    have B3 : Byt w4 (.slice ao2 lb.length cap2) lb := (B3o.apart g4 lt1).byt
    have C3 : Byt w4 (.slice ao3 lc.length cap3) lc := (C3o.apart g4 (fun g hg => Nat.lt_of_lt_of_le (lt1 g hg) lt2)).byt
    obtain ⟨lz, hlz⟩ : ∃ lz, lz = (la ++ List.replicate 60 0).take 32 := ⟨_, rfl⟩
    have HL : Hid (lz.length = 32) := by rw [hlz]; show _ = _; simp
    have A3 : Byt w4 (.slice (some ⟨g, 0, none⟩) 32 cap4) lz := by
      rw [hlz]
      have o5 : w4.ownsRow w.heap.size 5 1 (.slice (some ⟨g, 0, none⟩) (la.length + 60) cap4) (la.length + 60) ((la ++ List.replicate 60 0).map u8v) := by
        rw [List.map_append, List.map_replicate, ← zeroCells_rep]; exact o4
      refine Byt.take (n := la.length + 60) (byt_of_own (by simp) ?_ o5) (by omega) (by omega) h44
      intro x hx
      rcases List.mem_append.1 hx with h | h
      · exact A3.1 x h
      · rw [List.eq_of_mem_replicate h]; decide
    clear hlz B3o C3o lt1 o4 g4 c3
    refine Calls.mono (sum_any _ _ _ (Parts.lit3 (by simp) (A3.up (belA1 (belR _))) (B3.up (belA1 (belR _))) (C3.up (belA1 (belR _))))) ?_
    rintro e w5x ⟨rfl, rfl⟩
    go_wp2_with fail
    refine Calls.mono (refsum_any _ _ _ (Parts.lit3 (by simp) (A3.up (belA2 (belR _))) (B3.up (belA2 (belR _))) (C3.up (belA2 (belR _))))) ?_
    rintro e w5x ⟨rfl, rfl⟩
    go_wp2_with fail
    refine Calls.mono (sum_any _ _ _ (Parts.nil _)) ?_
    rintro e w5x ⟨rfl, rfl⟩
    go_wp2_with fail
    refine Calls.mono (refsum_any _ _ _ (Parts.nil _)) ?_
    rintro e w5x ⟨rfl, rfl⟩
    go_wp2_with fail
    refine Calls.mono (right_any _ _ _ _ _ (A3.up (belA4 (belR _))) (Parts.lit2 (by simp) (B3.up (belA3 (belR _))) (C3.up (belA3 (belR _)))) (by simp)) ?_
    rintro e w5 ⟨rfl, b5⟩
    go_wp2_with fail
    refine Calls.mono (refright_any _ _ _ _ _ (A3.up (belT (belA4 (belR _)) b5)) ((Parts.lit2 rfl B3 C3).up (belT (belA3 (belR _)) b5)) (by simp)) ?_
    rintro e w6 ⟨rfl, b6⟩
    have P6 := (Parts.lit2 (e := 23) rfl B3 C3).up (belT (belT (belA3 (belR _)) b5) b6)
    have c6 : Below w4.heap.size w4 w6 := belT (belT (belA4 (belR _)) b5) b6
    have A6 := A3.up c6
    have B6 := B3.up c6
    have C6 := C3.up c6
    have d6 := belT c4 c6
    clear b5 b6 c4 A3 B3 C3
    go_wp2_with fail
    refine Calls.mono (copy_any _ _ _ A6 (by rw [HL.out]; decide)) ?_
    rintro e w7 ⟨v7, rfl, X7, b7⟩
    obtain ⟨ao7, cap7, rfl, _, _⟩ := X7.byt.shape
    have A7 := A6.up b7
    have B7 := B6.up b7
    have C7 := C6.up b7
    have P7 := P6.up b7
    go_wp2_with fail
    refine Calls.mono (seal_yes _ _ _ _ _ _ (X7.up (belA1 (belR _))) HL.out (Parts.lit2 (by simp) B7 C7) (by simp)) ?_
    rintro e w8 ⟨rfl, X8, g8⟩
    have c8 : Below w6.heap.size w6 w8 := belG (belA1 b7) g8 (fun g hg => X7.ge g hg)
    have A8 := A6.up c8
    have B8 := B6.up c8
    have C8 := C6.up c8
    have P8 := P6.up c8
    have k8 := sealed_len [lb, lc] HL.out
    go_wp2_with fail
    refine Calls.mono (sealed_any _ _ _ _ _ A8 HL.out P8 (by simp)) ?_
    rintro e w9 ⟨v9, rfl, X9, b9⟩
    go_wp2_with fail
    refine Calls.mono (same_any _ _ _ _ _ (X8.byt.up b9) X9.byt) ?_
    rw [decide_eq_true rfl]
    rintro e w10 ⟨rfl, b10⟩
    have c10 : Below w8.heap.size w8 w10 := belT b9 (b10.below _)
    go_wp2_with fail
    refine Calls.mono (right_any _ _ _ _ _ (X8.byt.up (belA1 c10)) (Parts.lit2 (by simp) (B8.up c10) (C8.up c10)) (by simp)) ?_
    rw [right_sealed HL.out A8.bytes (by intro m hm c hc; simp at hm; rcases hm with rfl | rfl; exact B8.bytes c hc; exact C8.bytes c hc)]
    rintro e w11 ⟨rfl, b11⟩
    go_wp2_with fail
    refine Calls.mono (wakes1_any _) ?_
    rintro e w12 ⟨rfl, b12⟩
    go_wp2_with fail
    go_ret
    exact ⟨rfl, belT d6 (belT c8 (belT (belT (belA1 c10) b11) b12))⟩
  | false =>
    have B3 := B3o.byt
    have C3 := C3o.byt
    clear B3o C3o lt1
    go_wp2_with fail
    refine Calls.mono (sum_any _ _ _ (Parts.lit3 (by simp) (A3.byt.up (belA1 (belR _))) (B3.up (belA1 (belR _))) (C3.up (belA1 (belR _))))) ?_
    rintro e w4 ⟨rfl, rfl⟩
    go_wp2_with fail
    refine Calls.mono (refsum_any _ _ _ (Parts.lit3 (by simp) (A3.byt.up (belA2 (belR _))) (B3.up (belA2 (belR _))) (C3.up (belA2 (belR _))))) ?_
    rintro e w4 ⟨rfl, rfl⟩
    go_wp2_with fail
    refine Calls.mono (sum_any _ _ _ (Parts.nil _)) ?_
    rintro e w4 ⟨rfl, rfl⟩
    go_wp2_with fail
    refine Calls.mono (refsum_any _ _ _ (Parts.nil _)) ?_
    rintro e w4 ⟨rfl, rfl⟩
    go_wp2_with fail
    refine Calls.mono (right_any _ _ _ _ _ (A3.byt.up (belA4 (belR _))) (Parts.lit2 (by simp) (B3.up (belA3 (belR _))) (C3.up (belA3 (belR _)))) (by simp)) ?_
    rintro e w5 ⟨rfl, b5⟩
    go_wp2_with fail
    refine Calls.mono (refright_any _ _ _ _ _ (A3.byt.up (belT (belA4 (belR _)) b5)) ((Parts.lit2 rfl B3 C3).up (belT (belA3 (belR _)) b5)) (by simp)) ?_
    rintro e w6 ⟨rfl, b6⟩
    have P6 := (Parts.lit2 (e := 23) rfl B3 C3).up (belT (belT (belA3 (belR _)) b5) b6)
    have c6 : Below w3.heap.size w3 w6 := belT (belT (belA4 (belR _)) b5) b6
    have A6 := A3.up c6
    have B6 := B3.up c6
    have C6 := C3.up c6
    have d6 := belT c3 c6
    clear b5 b6 c3 A3 B3 C3
    go_wp2_with fail
    refine Calls.mono (copy_any _ _ _ A6.byt (by omega)) ?_
    rintro e w7 ⟨v7, rfl, X7, b7⟩
    obtain ⟨ao7, cap7, rfl, _, _⟩ := X7.byt.shape
    have A7 := A6.up b7
    have B7 := B6.up b7
    have C7 := C6.up b7
    have P7 := P6.up b7
    by_cases hl : la.length = 32
    · have HL := Lib.hid hl
      have hb32 : ((la.length : Int) == 32) = true := by rw [hl]; rfl
      have hb32' : ((la.length : Int) != 32) = false := by rw [hl]; rfl
      clear hl
      go_wp2_with fail
      refine Calls.mono (seal_yes _ _ _ _ _ _ (X7.up (belA1 (belR _))) HL.out (Parts.lit2 (by simp) B7 C7) (by simp)) ?_
      rintro e w8 ⟨rfl, X8, g8⟩
      have c8 : Below w6.heap.size w6 w8 := belG (belA1 b7) g8 (fun g hg => X7.ge g hg)
      have A8 := A6.up c8
      have B8 := B6.up c8
      have C8 := C6.up c8
      have P8 := P6.up c8
      have k8 := sealed_len [lb, lc] HL.out
      go_wp2_with fail
      refine Calls.mono (sealed_any _ _ _ _ _ A8.byt HL.out P8 (by simp)) ?_
      rintro e w9 ⟨v9, rfl, X9, b9⟩
      go_wp2_with fail
      refine Calls.mono (same_any _ _ _ _ _ (X8.byt.up b9) X9.byt) ?_
      rw [decide_eq_true rfl]
      rintro e w10 ⟨rfl, b10⟩
      have c10 : Below w8.heap.size w8 w10 := belT b9 (b10.below _)
      go_wp2_with fail
      refine Calls.mono (right_any _ _ _ _ _ (X8.byt.up (belA1 c10)) (Parts.lit2 (by simp) (B8.up c10) (C8.up c10)) (by simp)) ?_
      rw [right_sealed HL.out A8.1 (by intro m hm c hc; simp at hm; rcases hm with rfl | rfl; exact B8.bytes c hc; exact C8.bytes c hc)]
      rintro e w11 ⟨rfl, b11⟩
      go_wp2_with fail
      refine Calls.mono (wakes1_any _) ?_
      rintro e w12 ⟨rfl, b12⟩
      go_wp2_with fail
      go_ret
      exact ⟨rfl, belT d6 (belT c8 (belT (belT (belA1 c10) b11) b12))⟩
    · have HL := Lib.hid hl
      have hb32 : ((la.length : Int) == 32) = false := by rw [beq_eq_false_iff_ne]; omega
      have hb32' : ((la.length : Int) != 32) = true := by rw [bne_iff_ne]; omega
      clear hl
      go_wp2_with fail
      refine Calls.mono (seal_no _ _ _ _ (X7.byt.up (belA1 (belR _))) HL.out) ?_
      rintro e w8 ⟨rfl, rfl⟩
      go_wp2_with fail
      refine Calls.mono (same_any _ _ _ _ _ (X7.byt.up (belA1 (belR _))) (A7.byt.up (belA1 (belR _)))) ?_
      rw [decide_eq_true rfl]
      rintro e w10 ⟨rfl, b10⟩
      go_wp2_with fail
      refine Calls.mono (wakes1_any _) ?_
      rintro e w12 ⟨rfl, b12⟩
      go_wp2_with fail
      go_ret
      exact ⟨rfl, belT d6 (belT b7 (belT (belT (belA1 (belR _)) (b10.below _)) b12))⟩
theorem crcTells_law (W : World) (va : Value) (a : List Nat) (ha : Byt W va a) (_ : a.length ≤ 140737488351232) (vb : Value) (b : List Nat) (hb : Byt W vb b) (_ : b.length ≤ 140737488351232) (vc : Value) (c : List Nat) (hc : Byt W vc c) (_ : c.length ≤ 140737488351232) (full : Bool) :
    Calls Try.prog 6 #[va, vb, vc, .bool full] W fun e W' => e = .returned (.bool true) ∧ Below W.heap.size W W' := crcTells_walk va vb vc a b c full W ha hb hc
end Go.Proofs.Ytghbbceephcifaa
