/- The walk of SuperSealed (chapter 9). True at every input. -/
import Derived.Test.YtgnnkglmlopldaaSuperBack
import Derived.Test.YtgnnkglmlopldaaSupT
namespace Go.Proofs.Ytgnnkglmlopldaa
open Go.RowKit C
set_option linter.unusedVariables false
set_option linter.unusedSimpArgs false
set_option maxRecDepth 100000
set_option maxHeartbeats 16000000

theorem superSealed_law (gen : Int) (h0 : -9223372036854775808 ≤ gen ∧ gen ≤ 9223372036854775807) (a : Int) (h1 : -9223372036854775808 ≤ a ∧ a ≤ 9223372036854775807) (b : Int) (h2 : -9223372036854775808 ≤ b ∧ b ≤ 9223372036854775807) (window : Int) (h3 : -9223372036854775808 ≤ window ∧ window ≤ 9223372036854775807) (epoch : Int) (h4 : -9223372036854775808 ≤ epoch ∧ epoch ≤ 9223372036854775807) (out : Int) (h5 : -9223372036854775808 ≤ out ∧ out ≤ 9223372036854775807) (how : Int) (h6 : -9223372036854775808 ≤ how ∧ how ≤ 9223372036854775807) (at' : Int) (h7 : -9223372036854775808 ≤ at' ∧ at' ≤ 9223372036854775807) (c : Int) (hc : 0 ≤ c ∧ c ≤ 255) (W : World) :
    Calls Try.prog 9 #[.int .i64 gen, .int .i64 a, .int .i64 b, .int .i64 window, .int .i64 epoch, .int .i64 out, .int .i64 how, .int .i64 at', .int .u8 c] W fun e W' => e = .returned (.bool true) ∧ Below W.heap.size W W' := by
  obtain ⟨c, rfl⟩ := Int.eq_ofNat_of_zero_le hc.1
  have hc8 : c < 256 := by omega
  have HOF := Lib.hid fun w => of9_any gen a b window epoch out (how.tmod 28) w h0 h1 h2 h3 h4 h5 (tmod_in how 28 (by decide) (by decide))
  have HAT := Lib.hid h7
  clear h0 h1 h2 h3 h4 h5 h6 h7 hc
  go_enter Try.func9, Try.ntmps9
  go_wp2_with fail
  refine Calls.mono (HOF.out _) ?_
  rintro e w1 ⟨s, rfl, hin, b1⟩
  unfold sv
  cases hok : s.ok with
  | false =>
    have he := fun w => sencode_no s w hin hok
    unfold sv at *
    have HE := Lib.hid he
    clear he hok
    go_wp2_with fail
    refine Calls.mono (HE.out _) ?_
    rintro e w2 ⟨rfl, b2⟩
    go_wp2_with fail
    refine Calls.mono (wakes9_any _) ?_
    rintro e w6 ⟨rfl, b6⟩
    go_wp2_with fail
    go_ret
    exact ⟨rfl, belT b1 (belT (belA1 (belR _)) (belT b2 b6))⟩
  | true =>
    have he := fun w => sencode_ok s w hok
    unfold sv at *
    have HE := Lib.hid he
    have HOK := Lib.hid hok
    clear he hok
    obtain ⟨wA, hwA⟩ : ∃ wA, wA = w1.alloc (.cells (sc s).toArray 47) := ⟨_, rfl⟩
    have XA : Box wA w1.heap.size (sc s) := by rw [hwA]; exact Box.new _ _ _
    have bA : Below w1.heap.size w1 wA := by rw [hwA]; exact belA1 (belR _)
    have zA : wA.heap.size = w1.heap.size + 1 := by rw [hwA]; simp
    go_wp2_with fail
    rw [show w1.alloc (.cells #[.int .i64 s.gen, .int .i64 s.a.l, .int .i64 s.a.d, .int .i64 s.a.c, .int .i64 s.b.l, .int .i64 s.b.d, .int .i64 s.b.c, .bool s.run, .int .i64 s.win, .int .i64 s.ep, .int .i64 s.out] 47) = wA from hwA.symm]
    clear hwA
    refine Calls.mono (HE.out _) ?_
    rintro e w2 ⟨vx, rfl, OX, b2⟩
    obtain ⟨ao, capx, rfl, q1, q2⟩ := OX.byt.shapeN s.enc_len
    have XA2 := XA.fr (Fr.of_below (S := fun _ => False) b2) id
    go_wp2_with fail
    refine Calls.mono (within_ex at' 28 _ (by decide) (by decide) HAT.out) ?_
    rintro e wz ⟨k, rfl, hk, rfl⟩
    go_wp2_with fail
    refine Calls.mono (copy_any _ _ _ OX.byt (by rw [s.enc_len]; decide)) ?_
    rintro e w6 ⟨vz, rfl, OZ, b6⟩
    obtain ⟨gz, capz, e0, z1, z2, z3, z4⟩ := own_shape OZ.2 (by rw [s.enc_len]; decide)
    rw [s.enc_len] at e0
    subst e0
    obtain ⟨x, hx⟩ : ∃ x, s.enc[k]? = some x := ⟨_, List.getElem?_eq_getElem (by rw [s.enc_len]; omega)⟩
    obtain ⟨hx8, hxc, hxf⟩ := OZ.cells hx
    have hxor := bx8 hx8 hc8
    have OZ2 := OZ.store k (x ^^^ c) (xor8 hx8 hc8)
    have hk0 : (0 : Int) ≤ (k : Int) := by omega
    have hk32 : (k : Int) < 32 := by omega
    have HX := Lib.hid hx
    have b6' : Below w2.heap.size w2 _ := b6.grown OZ2.2 b6.size (fun g hg => by cases hg; exact z1)
    have HOZ := Lib.hid OZ2.1
    clear hx OZ OZ2
    go_wp2_with fail
    obtain ⟨w7, hw7⟩ : ∃ w7, w7 = w6.setCell ⟨gz, k, none⟩ (.int .u8 ((x ^^^ c : Nat) : Int)) := ⟨_, rfl⟩
    rw [← hw7] at HOZ b6' ⊢
    clear hw7 hxc hxf hk32
    refine Calls.mono (sealed_any _ _ _ [] _ HOZ.out.byt (by rw [List.length_set]; exact s.enc_len) (Parts.nil _) (by simp)) ?_
    rintro e w8 ⟨vy, rfl, OY, b8⟩
    change Own w8 _ _ (turnS s k (x ^^^ c)) at OY
    go_wp2_with fail
    refine Calls.mono (sdecode_any _ _ _ OY.byt) ?_
    rintro e w9 ⟨rfl, b9⟩
    have b29 := belT b6' (belT b8 b9)
    have XA9 := XA2.fr (Fr.of_below (S := fun _ => False) b29) id
    have OY9 := OY.up b9
    have bAll : Below W.heap.size W w9 := belT b1 (belT bA (belT b2 b29))
    obtain ⟨d0, d1, d2, d3, d4, d5, d6, d7, d8, d9, d10⟩ := XA9.cells11
    have hz : w1.heap.size < w9.heap.size := by have := b2.size; have := b29.size; omega
    by_cases h0 : c = 0
    · have e1 : turnS s k (x ^^^ c) = s.enc := by rw [h0]; exact turnS_same HX.out
      rw [e1, Sup.is_enc HOK.out, if_pos rfl, Sup.parse_enc HOK.out]
      have hcb : (((c : Nat) : Int) == 0) = true := by rw [h0]; rfl
      have hq := seq_run s s
      rw [(Sup.same_iff s s).2 rfl] at hq
      unfold sv at hq ⊢
      clear e1 h0
      go_wp2_with fail
      refine Calls.mono (wakes9_any _) ?_
      rintro e w10 ⟨rfl, b10⟩
      go_wp2_with fail
      go_ret
      exact ⟨rfl, belT bAll (belT (belA1 (belR _)) b10)⟩
    · have hcb : (((c : Nat) : Int) == 0) = false := by rw [beq_eq_false_iff_ne]; omega
      have HC0 := Lib.hid h0
      clear h0
      cases his : Sup.is (turnS s k (x ^^^ c)) with
      | false =>
        simp only [Bool.false_eq_true, if_false]
        have hq := seq_run Sup.zero Sup.zero
        rw [(Sup.same_iff _ _).2 rfl] at hq
        have hqz : ∀ w, (Op.equalIn 10000 47 (.agg #[.int .i64 0, .int .i64 0, .int .i64 0, .int .i64 0, .int .i64 0, .int .i64 0, .int .i64 0, .bool false, .int .i64 0, .int .i64 0, .int .i64 0]) (.agg #[.int .i64 0, .int .i64 0, .int .i64 0, .int .i64 0, .int .i64 0, .int .i64 0, .int .i64 0, .bool false, .int .i64 0, .int .i64 0, .int .i64 0])).run Try.prog w = .ok true w := hq
        rw [show sv Sup.zero = .agg #[.int .i64 0, .int .i64 0, .int .i64 0, .int .i64 0, .int .i64 0, .int .i64 0, .int .i64 0, .bool false, .int .i64 0, .int .i64 0, .int .i64 0] from rfl]
        clear hq his
        go_wp2_with (go_at_call 24; refine Calls.mono (wakes9_any _) ?_; rintro e w10 ⟨rfl, b10⟩)
        all_goals
          go_ret
          exact ⟨rfl, belT bAll (belT (belA1 (belR _)) b10)⟩
      | true =>
        have hmid : ¬ (k < 4 ∨ 19 ≤ k) := fun h => by rw [turnS_none (by omega) HX.out HC0.out h] at his; cases his
        have hk4 : (4 : Int) ≤ (k : Int) := by omega
        have hk19 : (k : Int) < 19 := by omega
        clear hmid
        rw [if_pos rfl]
        obtain ⟨_, htk, hte⟩ := (Sup.is_iff _).1 his
        obtain ⟨t, ht⟩ : ∃ t, t = Sup.parse (turnS s k (x ^^^ c)) := ⟨_, rfl⟩
        rw [← ht] at htk hte ⊢
        have hne : t ≠ s := turnS_ne (by omega) HX.out HC0.out hte
        have hq := seq_run t s
        rw [Bool.eq_false_iff.2 fun h => hne ((Sup.same_iff t s).1 h)] at hq
        have he := fun w => sencode_ok t w htk
        rw [hte] at he
        unfold sv at *
        have HET := Lib.hid he
        clear he htk hte hne ht his
        go_wp2_with fail
        refine Calls.mono (HET.out _) ?_
        rintro e w10 ⟨v10, rfl, O10, b10⟩
        have b9a : Below w9.heap.size w9 w10 := belT (belA1 (belR _)) b10
        have XA10 := XA9.fr (Fr.of_below (S := fun _ => False) b9a) id
        clear d0 d1 d2 d3 d4 d5 d6 d7 d8 d9 d10
        obtain ⟨d0, d1, d2, d3, d4, d5, d6, d7, d8, d9, d10⟩ := XA10.cells11
        obtain ⟨t0, t1, t2, t3, t4, t5, t6, t7, t8, t9, t10⟩ := box11 b10
        go_wp2_with fail
        refine Calls.mono (same_any _ _ _ _ _ O10.byt (OY9.byt.up b9a)) ?_
        rw [decide_eq_true rfl]
        rintro e w11 ⟨rfl, d11⟩
        go_wp2_with fail
        refine Calls.mono (wakes9_any _) ?_
        rintro e w12 ⟨rfl, b12⟩
        go_wp2_with fail
        go_ret
        exact ⟨rfl, belT bAll (belT b9a (belT (d11.below _) b12))⟩
end Go.Proofs.Ytgnnkglmlopldaa
