/- The law LogGreatest (chapter 12). True at every input. -/
import Derived.Test.YtenjpldinnbcbaaLgR
import Derived.Deep.CutRange
import Derived.Deep.RegionHeld3
namespace Go.Proofs.Ytenjpldinnbcbaa
open Go.RowKit C
set_option linter.unusedVariables false
set_option linter.unusedSimpArgs false
set_option maxRecDepth 100000
set_option maxHeartbeats 2000000

theorem Items.one {w : World} {base g n cap : Nat} {d a : Int} {v : Value} {b : List Nat} (hn : n = 1) (hc : 1 ≤ cap) (hc2 : cap ≤ maxLen) (h0 : w.cell? ⟨g, 0, none⟩ = some (.int .i64 d)) (h1 : w.cell? ⟨g, 1, none⟩ = some (.int .i64 a)) (h2 : w.cell? ⟨g, 2, none⟩ = some v) (hb : Byt w v b) (hd : i64b d ∧ i64b a) : Items w (.slice (some ⟨g, 0, none⟩) n cap) [⟨d, a, b⟩] := by
  subst hn
  refine ⟨_, cap, rfl, hc, hc2, (fun h => by cases h), .inr ⟨g, 0, rfl, World.block_lt_of_cell? _ _ h0, fun i x hx => ?_⟩⟩
  have hi : i = 0 := by have := (List.getElem?_eq_some_iff.1 hx).1; simpa using this
  subst hi
  cases hx
  exact ⟨v, h0, h1, h2, hb, hd⟩
theorem bestG_lt {lv : List Bool} {S : Nat → Nat} : ∀ {n e : Nat}, bestG lv S n = some e → e < n := by
  intro n
  induction n with
  | zero => intro e h; cases h
  | succ n ih =>
    intro e h
    have h : stG lv S (bestG lv S n) n = some e := h
    unfold stG at h
    split at h
    · cases h; omega
    · have := ih h; omega
theorem bestG_succ (lv : List Bool) (S : Nat → Nat) (n : Nat) : bestG lv S (n + 1) = if (B.live1 lv n && gtG S n (bestG lv S n)) = true then some n else bestG lv S n := by
  show stG lv S (bestG lv S n) n = _
  unfold stG
  simp only [Bool.and_eq_true]
def bestI : Option Nat → Int
  | none => -1
  | some d => (d : Int)
/-- behind some rounds -/
def GJ (W : World) (lv : Value) (gs : Nat) (S : Nat → Nat) (j : Nat) (X : World) : Prop :=
  ∃ hs c, IsBench X W.heap.size W.heap.size lv hs c ∧ GI S c j ∧ Box X gs [.int .i64 (S 0), .int .i64 (S 1), .int .i64 (S 2)] ∧ ¬ ofB W.heap.size lv hs gs ∧ gs < X.heap.size ∧ Below W.heap.size W X
attribute [local irreducible] Go.Calls Byt Own Parts PA BA Bools OwnD OwnT OwnZ Items ItemsF
theorem logGreatest_law (a : Int) (ha : -9223372036854775808 ≤ a ∧ a ≤ 9223372036854775807) (b : Int) (hb : -9223372036854775808 ≤ b ∧ b ≤ 9223372036854775807) (c : Int) (hc : -9223372036854775808 ≤ c ∧ c ≤ 9223372036854775807) (x y z : Bool) (W : World) :
    Calls Try.prog 7 #[.int .i64 a, .int .i64 b, .int .i64 c, .bool x, .bool y, .bool z] W fun e W' => e = .returned (.bool true) ∧ Below W.heap.size W W' := by
  obtain ⟨i0, hj, hy0, hy1, hy2⟩ := info_parts uint8_info
  obtain ⟨ka, ea, la, Wa⟩ := within_nat a 4 (by decide) (by decide) ha
  clear ea
  obtain ⟨kb, eb, lb, Wb⟩ := within_nat b 4 (by decide) (by decide) hb
  clear eb
  obtain ⟨kc, ec, lc, Wc⟩ := within_nat c 4 (by decide) (by decide) hc
  clear ec
  obtain ⟨S, hS⟩ : ∃ S : Nat → Nat, S = fun d => if d = 0 then 1 + ka else if d = 1 then 1 + kb else 1 + kc := ⟨_, rfl⟩
  have hSb : ∀ d, d < 3 → 1 ≤ S d ∧ S d ≤ 100 := fun d _ => by rw [hS]; dsimp only; split <;> (try split) <;> omega
  have s0 : IntKind.i64.wrap (1 + (ka : Int)) = (S 0 : Int) := by rw [IntKind.wrap_i64, hS]; dsimp only; rw [if_pos rfl]; omega
  have s1 : IntKind.i64.wrap (1 + (kb : Int)) = (S 1 : Int) := by rw [IntKind.wrap_i64, hS]; dsimp only; rw [if_neg (by decide), if_pos rfl]; omega
  have s2 : IntKind.i64.wrap (1 + (kc : Int)) = (S 2 : Int) := by rw [IntKind.wrap_i64, hS]; dsimp only; rw [if_neg (by decide), if_neg (by decide)]; omega
  have HSB := Lib.hid hSb
  clear hS hSb la lb lc ha hb hc
  go_enter Try.func7, Try.ntmps7
  go_wp2_with fail
  refine Calls.mono (bnew_any W 3 (by decide) (by decide)) ?_
  rintro r w1 ⟨rfl, ⟨lv, hs, I1⟩, b1⟩
  have hlt1 := I1.lts
  have hsz1 : W.heap.size < w1.heap.size := I1.lt
  have HM0 : Hid (GJ W lv w1.heap.size S 0 (w1.alloc (.cells #[.int .i64 (S 0), .int .i64 (S 1), .int .i64 (S 2)] 3))) :=
    ⟨hs, B.fresh 3, I1.up (belA1 (belR _)), GI.zero S, Box.new w1 [.int .i64 (S 0), .int .i64 (S 1), .int .i64 (S 2)] 3, (fun h => by have := hlt1 _ h; omega), by simp, belA1 b1⟩
  clear I1 hlt1 b1
  go_wp2_with fail
  refine Calls.mono (Wa.out _) ?_
  rintro r w2 ⟨rfl, rfl⟩
  go_wp2_with fail
  refine Calls.mono (Wb.out _) ?_
  rintro r w2 ⟨rfl, rfl⟩
  go_wp2_with fail
  refine Calls.mono (Wc.out _) ?_
  rintro r w2 ⟨rfl, rfl⟩
  go_wp2
  go_loopw [48] (fun jv X => ∃ j : Nat, j ≤ 3 ∧ jv = .int .i64 j ∧ Hid (GJ W lv w1.heap.size S j X)) (fun jv _ => 3 - (intOf jv).toNat)
  case atStart => exact ⟨0, Nat.zero_le _, rfl, HM0⟩
  case round =>
    obtain ⟨j, hj3, rfl, HM⟩ := hrel
    have hcs : j = 0 ∨ j = 1 ∨ j = 2 ∨ j = 3 := by omega
    rcases hcs with rfl | rfl | rfl | rfl
    · obtain ⟨hs1, c1, I1, G1, X1, N1, gl, BW⟩ := HM.out
      have hcc : wr.cell? ⟨w1.heap.size, 0, none⟩ = some (.int .i64 (S 0 : Nat)) := by have := X1.range 0 _ rfl; simpa using this
      have I1 := Lib.hid I1
      have G1 := Lib.hid G1
      have X1 := Lib.hid X1
      have N1 := Lib.hid N1
      have TL := Lib.hid (OwnT.lit wr #[.bool true, .bool false, .bool false] [true, false, false] (n := 3) (g := wr.heap.size) rfl rfl rfl (by decide))
      clear HM HM0
      go_wp2_with (at_make; go_loud (refine wpList_make_bytes rfl _ _ 48 rfl i0 Try.underlying48 hj hy0 hy1 hy2 .i64 .i64 32 32 32 rfl rfl rfl rfl (by decide) ?_); intro w9 O9 b9)
      have XB := (Box.new w9 [.int .i64 0, .int .i64 36, .slice (some ⟨wr.heap.size + 1, 0, none⟩) 32 32] 56).fr (Fr.alloc (S := fun _ => False) _ (.cells #[.int .i64 (S 0), .slice (some ⟨w9.heap.size, 0, none⟩) 1 1] 59)) id
      have BX := belA2 (o1 := .cells #[.int .i64 0, .int .i64 36, .slice (some ⟨wr.heap.size + 1, 0, none⟩) 32 32] 56) (o2 := .cells #[.int .i64 (S 0), .slice (some ⟨w9.heap.size, 0, none⟩) 1 1] 59) (belT (belA1 (belR wr)) b9)
      have O9' : Own w9 (wr.heap.size + 1) (.slice (some ⟨wr.heap.size + 1, 0, none⟩) 32 32) (List.replicate 32 0) := by simpa using O9
      have IT := Items.one (n := 1) (cap := 1) (base := 0) rfl (Nat.le_refl _) (by simp only [maxLen]; omega) (XB.range 0 _ rfl) (XB.range 1 _ rfl) (XB.range 2 _ rfl) (O9'.byt.up (belA2 (belR _))) (show i64b (0 : Int) ∧ i64b (36 : Int) by unfold i64b; omega)
      have hSS := HSB.out 0 (by decide)
      have HP := lput_yes _ _ _ _ _ _ _ _ ((S 0 : Nat) : Int) _ _ (I1.out.up BX) G1.out.pw (by have := (belT BW BX).size; omega) ((TL.out.up (belA2 (o1 := .cells #[.int .i64 0, .int .i64 36, .slice (some ⟨wr.heap.size + 1, 0, none⟩) 32 32] 56) (o2 := .cells #[.int .i64 (S 0), .slice (some ⟨w9.heap.size, 0, none⟩) 1 1] 59) b9)).ba (S := ofB W.heap.size lv hs1) (fun y hy => I1.out.lts y hy)) IT (itemG_ok (d := 0) hSS.1 hSS.2 (by decide)) (by rw [G1.out.len]; decide) G1.out.p (by have := G1.out.w; omega)
      have HP := Lib.hid HP
      have BWX := belT BW BX
      have XX := Lib.hid (X1.out.fr (Fr.of_below (S := fun _ => False) BX) id)
      have IX := Lib.hid (I1.out.up BX)
      have hgs := BX.size
      clear XB BX O9' IT O9 b9 BW
      refine Calls.mono HP.out ?_
      rintro r w5 ⟨rfl, hs5, I5, F5, q5⟩
      have HNX : Hid (GJ W lv w1.heap.size S (0 + 1) w5) := ⟨hs5, _, I5, G1.out.step (by decide) (HSB.out 0 (by decide)), XX.out.fr F5 N1.out, (fun h => by
        rcases q5 _ h with h | h
        · exact N1.out h
        · omega), by have := F5.size; omega, Fr.below BWX F5 (by have := BWX.size; omega) IX.out.ges⟩
      clear I5 F5 q5 HP
      go_wp2
      go_roundw
      case rel => exact ⟨0 + 1, by decide, by go_num, HNX⟩
      case measure => simp [intOf]
    · obtain ⟨hs1, c1, I1, G1, X1, N1, gl, BW⟩ := HM.out
      have hcc : wr.cell? ⟨w1.heap.size, 1, none⟩ = some (.int .i64 (S 1 : Nat)) := by have := X1.range 1 _ rfl; simpa using this
      have I1 := Lib.hid I1
      have G1 := Lib.hid G1
      have X1 := Lib.hid X1
      have N1 := Lib.hid N1
      have TL := Lib.hid (OwnT.lit wr #[.bool false, .bool true, .bool false] [false, true, false] (n := 3) (g := wr.heap.size) rfl rfl rfl (by decide))
      clear HM HM0
      go_wp2_with (at_make; go_loud (refine wpList_make_bytes rfl _ _ 48 rfl i0 Try.underlying48 hj hy0 hy1 hy2 .i64 .i64 32 32 32 rfl rfl rfl rfl (by decide) ?_); intro w9 O9 b9)
      have XB := (Box.new w9 [.int .i64 1, .int .i64 36, .slice (some ⟨wr.heap.size + 1, 0, none⟩) 32 32] 56).fr (Fr.alloc (S := fun _ => False) _ (.cells #[.int .i64 (S 1), .slice (some ⟨w9.heap.size, 0, none⟩) 1 1] 59)) id
      have BX := belA2 (o1 := .cells #[.int .i64 1, .int .i64 36, .slice (some ⟨wr.heap.size + 1, 0, none⟩) 32 32] 56) (o2 := .cells #[.int .i64 (S 1), .slice (some ⟨w9.heap.size, 0, none⟩) 1 1] 59) (belT (belA1 (belR wr)) b9)
      have O9' : Own w9 (wr.heap.size + 1) (.slice (some ⟨wr.heap.size + 1, 0, none⟩) 32 32) (List.replicate 32 0) := by simpa using O9
      have IT := Items.one (n := 1) (cap := 1) (base := 0) rfl (Nat.le_refl _) (by simp only [maxLen]; omega) (XB.range 0 _ rfl) (XB.range 1 _ rfl) (XB.range 2 _ rfl) (O9'.byt.up (belA2 (belR _))) (show i64b (1 : Int) ∧ i64b (36 : Int) by unfold i64b; omega)
      have hSS := HSB.out 1 (by decide)
      have HP := lput_yes _ _ _ _ _ _ _ _ ((S 1 : Nat) : Int) _ _ (I1.out.up BX) G1.out.pw (by have := (belT BW BX).size; omega) ((TL.out.up (belA2 (o1 := .cells #[.int .i64 1, .int .i64 36, .slice (some ⟨wr.heap.size + 1, 0, none⟩) 32 32] 56) (o2 := .cells #[.int .i64 (S 1), .slice (some ⟨w9.heap.size, 0, none⟩) 1 1] 59) b9)).ba (S := ofB W.heap.size lv hs1) (fun y hy => I1.out.lts y hy)) IT (itemG_ok (d := 1) hSS.1 hSS.2 (by decide)) (by rw [G1.out.len]; decide) G1.out.p (by have := G1.out.w; omega)
      have HP := Lib.hid HP
      have BWX := belT BW BX
      have XX := Lib.hid (X1.out.fr (Fr.of_below (S := fun _ => False) BX) id)
      have IX := Lib.hid (I1.out.up BX)
      have hgs := BX.size
      clear XB BX O9' IT O9 b9 BW
      refine Calls.mono HP.out ?_
      rintro r w5 ⟨rfl, hs5, I5, F5, q5⟩
      have HNX : Hid (GJ W lv w1.heap.size S (1 + 1) w5) := ⟨hs5, _, I5, G1.out.step (by decide) (HSB.out 1 (by decide)), XX.out.fr F5 N1.out, (fun h => by
        rcases q5 _ h with h | h
        · exact N1.out h
        · omega), by have := F5.size; omega, Fr.below BWX F5 (by have := BWX.size; omega) IX.out.ges⟩
      clear I5 F5 q5 HP
      go_wp2
      go_roundw
      case rel => exact ⟨1 + 1, by decide, by go_num, HNX⟩
      case measure => simp [intOf]
    · obtain ⟨hs1, c1, I1, G1, X1, N1, gl, BW⟩ := HM.out
      have hcc : wr.cell? ⟨w1.heap.size, 2, none⟩ = some (.int .i64 (S 2 : Nat)) := by have := X1.range 2 _ rfl; simpa using this
      have I1 := Lib.hid I1
      have G1 := Lib.hid G1
      have X1 := Lib.hid X1
      have N1 := Lib.hid N1
      have TL := Lib.hid (OwnT.lit wr #[.bool false, .bool false, .bool true] [false, false, true] (n := 3) (g := wr.heap.size) rfl rfl rfl (by decide))
      clear HM HM0
      go_wp2_with (at_make; go_loud (refine wpList_make_bytes rfl _ _ 48 rfl i0 Try.underlying48 hj hy0 hy1 hy2 .i64 .i64 32 32 32 rfl rfl rfl rfl (by decide) ?_); intro w9 O9 b9)
      have XB := (Box.new w9 [.int .i64 2, .int .i64 36, .slice (some ⟨wr.heap.size + 1, 0, none⟩) 32 32] 56).fr (Fr.alloc (S := fun _ => False) _ (.cells #[.int .i64 (S 2), .slice (some ⟨w9.heap.size, 0, none⟩) 1 1] 59)) id
      have BX := belA2 (o1 := .cells #[.int .i64 2, .int .i64 36, .slice (some ⟨wr.heap.size + 1, 0, none⟩) 32 32] 56) (o2 := .cells #[.int .i64 (S 2), .slice (some ⟨w9.heap.size, 0, none⟩) 1 1] 59) (belT (belA1 (belR wr)) b9)
      have O9' : Own w9 (wr.heap.size + 1) (.slice (some ⟨wr.heap.size + 1, 0, none⟩) 32 32) (List.replicate 32 0) := by simpa using O9
      have IT := Items.one (n := 1) (cap := 1) (base := 0) rfl (Nat.le_refl _) (by simp only [maxLen]; omega) (XB.range 0 _ rfl) (XB.range 1 _ rfl) (XB.range 2 _ rfl) (O9'.byt.up (belA2 (belR _))) (show i64b (2 : Int) ∧ i64b (36 : Int) by unfold i64b; omega)
      have hSS := HSB.out 2 (by decide)
      have HP := lput_yes _ _ _ _ _ _ _ _ ((S 2 : Nat) : Int) _ _ (I1.out.up BX) G1.out.pw (by have := (belT BW BX).size; omega) ((TL.out.up (belA2 (o1 := .cells #[.int .i64 2, .int .i64 36, .slice (some ⟨wr.heap.size + 1, 0, none⟩) 32 32] 56) (o2 := .cells #[.int .i64 (S 2), .slice (some ⟨w9.heap.size, 0, none⟩) 1 1] 59) b9)).ba (S := ofB W.heap.size lv hs1) (fun y hy => I1.out.lts y hy)) IT (itemG_ok (d := 2) hSS.1 hSS.2 (by decide)) (by rw [G1.out.len]; decide) G1.out.p (by have := G1.out.w; omega)
      have HP := Lib.hid HP
      have BWX := belT BW BX
      have XX := Lib.hid (X1.out.fr (Fr.of_below (S := fun _ => False) BX) id)
      have IX := Lib.hid (I1.out.up BX)
      have hgs := BX.size
      clear XB BX O9' IT O9 b9 BW
      refine Calls.mono HP.out ?_
      rintro r w5 ⟨rfl, hs5, I5, F5, q5⟩
      have HNX : Hid (GJ W lv w1.heap.size S (2 + 1) w5) := ⟨hs5, _, I5, G1.out.step (by decide) (HSB.out 2 (by decide)), XX.out.fr F5 N1.out, (fun h => by
        rcases q5 _ h with h | h
        · exact N1.out h
        · omega), by have := F5.size; omega, Fr.below BWX F5 (by have := BWX.size; omega) IX.out.ges⟩
      clear I5 F5 q5 HP
      go_wp2
      go_roundw
      case rel => exact ⟨2 + 1, by decide, by go_num, HNX⟩
      case measure => simp [intOf]
    · obtain ⟨hs1, c1, I1, G1, X1, N1, gl, BW⟩ := HM.out
      have I1 := Lib.hid I1
      have G1 := Lib.hid G1
      have X1 := Lib.hid X1
      have BW1 := Lib.hid BW
      have hlt := I1.out.lts
      have TL := Lib.hid (OwnT.lit wr #[.bool x, .bool y, .bool z] [x, y, z] (n := 3) (g := wr.heap.size) rfl rfl rfl (by show 3 ≤ 1048576; decide))
      obtain ⟨X2, hX2⟩ : ∃ X2, X2 = wr.alloc (.cells #[.bool x, .bool y, .bool z] 4) := ⟨_, rfl⟩
      have bx2 : Below wr.heap.size wr X2 := by rw [hX2]; exact belA1 (belR _)
      rw [← hX2] at TL
      have HX2 := Lib.hid hX2
      have I2 := Lib.hid (I1.out.up bx2)
      have XX := Lib.hid (X1.out.fr (Fr.of_below (S := fun _ => False) bx2) id)
      have BW2 := Lib.hid (belT BW bx2)
      have hsc : Hid (∀ k, k < 3 → X2.cell? ⟨w1.heap.size, k, none⟩ = some (.int .i64 (S k : Nat))) := by
        show ∀ k, _
        intro k hk
        have : k = 0 ∨ k = 1 ∨ k = 2 := by omega
        rcases this with rfl | rfl | rfl
        · have := XX.out.range 0 _ rfl; simpa using this
        · have := XX.out.range 1 _ rfl; simpa using this
        · have := XX.out.range 2 _ rfl; simpa using this
      clear HM HM0 hX2 BW hlt
      go_wp2_with fail
      rw [← HX2.out]
      go_loopw [21, 78] (fun bv kv Y => ∃ k : Nat, k ≤ 3 ∧ kv = .int .i64 k ∧ bv = .int .i64 (bestI (bestG [x, y, z] S k)) ∧ X2 = Y) (fun _ kv _ => 3 - (intOf kv).toNat)
      case atStart => exact ⟨0, Nat.zero_le _, rfl, rfl, rfl⟩
      case round =>
        obtain ⟨k, hk3, rfl, rfl, rfl⟩ := hrel
        by_cases hkl : k < 3
        · have k1 : (k : Int) < 3 := by omega
          have k0 : (0 : Int) ≤ (k : Int) := by omega
          have k2 : IntKind.i64.wrap ((k : Int) + 1) = ((k + 1 : Nat) : Int) := by rw [IntKind.wrap_i64]; omega
          have HKL := Lib.hid hkl
          have ck := hsc.out k hkl
          obtain ⟨bv2, ov2, tv, hbv, hcv, htv⟩ := TL.out.bools.cellAt (k := k) (by show k < 3; exact hkl)
          cases hbv
          rw [Nat.zero_add] at hcv
          have htv' : B.live1 [x, y, z] k = tv := by unfold B.live1; rw [List.getD_eq_getElem?_getD, htv.out]; rfl
          obtain ⟨sel, hsel⟩ : ∃ sel, sel = (tv && gtG S k (bestG [x, y, z] S k)) := ⟨_, rfl⟩
          have HNX : Hid (bestG [x, y, z] S (k + 1) = if sel = true then some k else bestG [x, y, z] S k) := by
            show _ = _
            rw [hsel, ← htv']; exact bestG_succ _ _ _
          have HSEL := Lib.hid hsel
          obtain ⟨bo, hbo⟩ : ∃ bo, bo = bestG [x, y, z] S k := ⟨_, rfl⟩
          rw [← hbo] at HSEL HNX ⊢
          have HBO := Lib.hid hbo
          clear hsel htv htv' hbo hkl hk3
          go_upto_region 18 with (fail)
          go_cut [98] from 83 to 97 (fun b Y => b = .bool sel ∧ X2 = Y)
          case first =>
            cases tv with
            | false =>
              have HS2 : Hid (sel = false) := by rw [HSEL.out]; exact Lib.hid rfl
              go_wp2_with fail
              go_meet
              case rel => exact ⟨by rw [HS2.out], rfl⟩
            | true =>
              cases bo with
              | none =>
                have HS2 : Hid (sel = true) := by rw [HSEL.out]; exact Lib.hid rfl
                unfold bestI
                go_wp2_with fail
                go_meet
                case rel => exact ⟨by rw [HS2.out], rfl⟩
              | some e =>
                have he := bestG_lt HBO.out.symm
                have ce := hsc.out e (by have := HKL.out; omega)
                have e0 : (0 : Int) ≤ (e : Int) := by omega
                have e1 : decide ((e : Int) < 0) = false := decide_eq_false (by omega)
                have e1' : ((e : Int) < 0) = False := eq_false (by omega)
                have e2 : (e : Int) < 3 := by have := HKL.out; omega
                by_cases hss : S e < S k
                · have s1' : decide (((S e : Nat) : Int) < ((S k : Nat) : Int)) = true := decide_eq_true (by omega)
                  have HS2 : Hid (sel = true) := by rw [HSEL.out]; exact Lib.hid (decide_eq_true hss)
                  unfold bestI
                  go_wp2_with fail
                  go_meet
                  case rel => exact ⟨by rw [HS2.out], rfl⟩
                · have s1' : decide (((S e : Nat) : Int) < ((S k : Nat) : Int)) = false := decide_eq_false (by omega)
                  have HS2 : Hid (sel = false) := by rw [HSEL.out]; exact Lib.hid (decide_eq_false hss)
                  have HSS := Lib.hid hss
                  clear hss
                  unfold bestI
                  go_wp2_with fail
                  go_meet
                  case rel => exact ⟨by first | (rw [HS2.out]; done) | (rw [HS2.out, decide_eq_false HSS.out]), rfl⟩
          obtain ⟨rfl, rfl⟩ := hcut
          cases sel with
          | true =>
            have HN2 : Hid (bestI (bestG [x, y, z] S (k + 1)) = (k : Int)) := by rw [HNX.out]; exact Lib.hid rfl
            go_wp2
            go_roundw
            case rel => exact ⟨k + 1, HKL.out, by go_num, by rw [HN2.out], by first | rfl | trivial⟩
            case measure => have := HKL.out; simp [intOf]; omega
          | false =>
            have HN2 : Hid (bestG [x, y, z] S (k + 1) = bo) := by rw [HNX.out]; exact Lib.hid rfl
            go_wp2
            go_roundw
            case rel => exact ⟨k + 1, HKL.out, by go_num, by rw [HN2.out], by first | rfl | trivial⟩
            case measure => have := HKL.out; simp [intOf]; omega
        · have hke : k = 3 := by omega
          subst hke
          have HG := lget_any X2 _ _ _ _ _ _ _ I2.out G1.out.pw.lv (by rw [G1.out.len]; decide) TL.out.bools
          rw [G1.out.len, G1.out.best HSB.out [x, y, z] 3 (Nat.le_refl _)] at HG
          have HG := Lib.hid HG
          obtain ⟨bo, hbo⟩ : ∃ bo, bo = bestG [x, y, z] S 3 := ⟨_, rfl⟩
          rw [← hbo] at HG ⊢
          have HBO := Lib.hid hbo
          clear hbo hkl hk3
          cases bo with
          | none =>
            have HG2 := HG.out
            unfold recG at HG2
            dsimp only at HG2
            have HG2 := Lib.hid HG2
            unfold bestI
            clear HG
            go_wp2_with fail
            refine Calls.mono HG2.out ?_
            rintro r w5 ⟨iv, rfl, IF, b5⟩
            obtain ⟨ai, ci, rfl, _, _, _⟩ := IF.items.shape
            have B5 := belT BW2.out b5
            clear IF b5
            go_wp2_with fail
            refine Calls.mono (wakes12_any _) ?_
            rintro r w6 ⟨rfl, b6⟩
            go_wp2
            go_ret
            exact ⟨rfl, belT (belA1 B5) b6⟩
          | some e =>
            have he := bestG_lt HBO.out.symm
            have hse := HSB.out e he
            have HG2 := HG.out
            unfold recG at HG2
            dsimp only at HG2
            rw [decide_eq_true (show (0 : Int) < ((S e : Nat) : Int) by omega)] at HG2
            have HG2 := Lib.hid HG2
            have e1 : decide ((e : Int) < 0) = false := decide_eq_false (by omega)
            have e1' : ((e : Int) < 0) = False := eq_false (by omega)
            have e2 : (e : Int) < 3 := by omega
            have e0 : (0 : Int) ≤ (e : Int) := by omega
            unfold bestI
            clear HG
            go_wp2_with fail
            refine Calls.mono HG2.out ?_
            rintro r w5 ⟨iv, rfl, IF, b5⟩
            obtain ⟨ai, ci, rfl, _, _, _⟩ := IF.items.shape
            obtain ⟨ib, io, ix, iu, hai, hil, hix, hit⟩ := IF.items.get (k := 0) (by show 0 < 1; decide)
            subst hai
            cases hix.out
            have hi0 := hit.1
            rw [Nat.zero_mul, Nat.add_zero] at hi0
            have hse5 : w5.cell? ⟨w1.heap.size, e, none⟩ = some (.int .i64 (S e : Nat)) := cell_fr (hsc.out e he) (Fr.of_below (S := fun _ => False) b5) id
            have B5 := belT BW2.out b5
            have hl1 : ([itemG e] : List RI).length = 1 := rfl
            rw [hl1]
            have IF := Lib.hid IF
            go_upto_region 24 with (fail)
            obtain ⟨X6, hX6⟩ : ∃ X6, X6 = w5.alloc (.cells #[.int .i64 (S e : Nat), .slice (some ⟨ib, io, none⟩) 1 ci] 59) := ⟨_, rfl⟩
            have bx6 : Below w5.heap.size w5 X6 := by rw [hX6]; exact belA1 (belR _)
            have hbx : Box X6 w5.heap.size [.int .i64 (S e : Nat), .slice (some ⟨ib, io, none⟩) 1 ci] := by rw [hX6]; exact Box.new w5 _ 59
            have HK : Hid (∀ Y, Below X6.heap.size X6 Y → (Y.cell? ⟨w5.heap.size, 0, none⟩ = some (.int .i64 (S e : Nat)) ∧ Y.cell? ⟨w5.heap.size, 1, none⟩ = some (.slice (some ⟨ib, io, none⟩) 1 ci) ∧ Y.cell? ⟨w1.heap.size, e, none⟩ = some (.int .i64 (S e : Nat)) ∧ Y.cell? ⟨ib, io, none⟩ = some (.int .i64 (e : Int)))) := by
              show ∀ Y, _
              intro Y hY
              obtain ⟨⟨f0, f1⟩, _, _⟩ := (hbx.fr (Fr.of_below (S := fun _ => False) hY) id).two
              have hk := Fr.of_below (S := fun _ => False) (belT bx6 hY)
              exact ⟨f0, f1, cell_fr hse5 hk id, cell_fr hi0 hk id⟩
            rw [← hX6]
            have B6 := belT B5 bx6
            clear hX6 hbx bx6 hse5 hi0 b5 hit
            go_region_held3 (fun Y => Y.cell? ⟨w5.heap.size, 0, none⟩ = some (.int .i64 (S e : Nat)) ∧ Y.cell? ⟨w5.heap.size, 1, none⟩ = some (.slice (some ⟨ib, io, none⟩) 1 ci) ∧ Y.cell? ⟨w1.heap.size, e, none⟩ = some (.int .i64 (S e : Nat)) ∧ Y.cell? ⟨ib, io, none⟩ = some (.int .i64 (e : Int)))
              ((refine HK.out _ ?_; iterate 8 try (first | assumption | apply belDr | apply belAlloc | exact belR _)))
              ((go_at_call 31; refine Calls.mono (wakes12_any _) ?_; rintro e wx ⟨rfl, bx⟩; have bx1 := belT (show Below X6.heap.size X6 _ from (by iterate 8 try (first | exact belR _ | apply belDr))) bx))
            go_wp2
            go_ret
            exact ⟨rfl, belT B6 (by iterate 8 try (first | assumption | apply belDr | apply belAlloc | exact belR _))⟩
end Go.Proofs.Ytenjpldinnbcbaa
