/- The walks of slices.Clone (bytes) and record.Encode. -/
import Derived.Test.YtenjpldinnbcbaaRecM
import Derived.Test.YtenjpldinnbcbaaOwnD
import Derived.Test.YtenjpldinnbcbaaCrcA
namespace Go.Proofs.Ytenjpldinnbcbaa
open Go.RowKit C
set_option linter.unusedVariables false
set_option linter.unusedSimpArgs false
set_option maxRecDepth 100000
set_option maxHeartbeats 4000000

theorem clone_any (v : Value) (l : List Nat) (w : World) (h : Byt w v l) (hl : l.length ≤ 1048000) :
    Calls Try.prog 99 #[v] w fun e w' => ∃ v', e = .returned v' ∧ Own w' w.heap.size v' l ∧ Below w.heap.size w w' := by
  obtain ⟨j0, hj, hy0, hy1, hy2⟩ := info_parts uint8_info
  have HB := Lib.hid h
  obtain ⟨ao, cap, rfl, h1, h2, h0, h3, hA⟩ := h
  have q1 : ∀ W, (binOp .eql 48 (.slice none 0 0) (.slice none 0 0)).run Try.prog W = .ok (.bool true) W := fun _ => rfl
  have q2 : ∀ (W : World) (a : Addr) n c, (binOp .eql 48 (.slice (some a) n c) (.slice none 0 0)).run Try.prog W = .ok (.bool false) W := fun _ _ _ _ => rfl
  cases ao with
  | none =>
    have e : l = [] := by
      have := h0 rfl
      exact List.eq_nil_of_length_eq_zero (by omega)
    subst e
    have := h0 rfl
    subst this
    go_enter Try.func99, Try.ntmps99
    go_wp2
    go_ret
    exact ⟨_, rfl, Own.empty _ _, belR _⟩
  | some ad =>
    clear h3 hA h0
    go_enter Try.func99, Try.ntmps99
    go_wp2_with (at_builtin; go_loud (refine wpList_append_bytes rfl (.tmp 5) (.tmp 6) 48 rfl j0 Try.underlying48 hj hy0 hy1 hy2 w.heap.size _ [] rfl (Own.lit w #[] [] rfl rfl rfl (fun _ h => by cases h) (by simp) (Nat.le_refl _)) _ l rfl (HB.out.up (belA1 (belR _))) (by simp; omega) (by simp) ?_); intro v1 w1 O1 g1)
    go_ret
    exact ⟨_, rfl, O1, belG (belA1 (belR _)) g1 (fun g hg => by cases hg; exact Nat.le_refl _)⟩

theorem rencode_no (s : Int) (v : Value) (l : List RI) (w : World) (hs : i64b s) (h : Items w v l) (hk : rok s l = false) :
    Calls Try.prog 66 #[.agg #[.int .i64 s, v]] w fun e w' => e = .returned (.tuple #[.slice none 0 0, .int .i64 1]) ∧ Below w.heap.size w w' := by
  have hc := rcheck_any s v l (w.alloc (.cells #[.int .i64 s, v] 59)) hs (h.up (belA1 (belR _)))
  rw [rerr_no hk] at hc
  have HC := Lib.hid hc
  obtain ⟨ao, cap, rfl, _⟩ := h.shape
  clear hc hk h
  go_enter Try.func66, Try.ntmps66
  go_wp2_with (go_at_call 33; refine Calls.mono HC.out ?_; rintro e w2 ⟨rfl, b2⟩)
  go_ret2
  exact ⟨rfl, belT (belA1 (belR _)) b2⟩
theorem rencode_yes (s : Nat) (v : Value) (l : List RI) (w : World) (h : Items w v l) (hk : rok s l = true) :
    Calls Try.prog 66 #[.agg #[.int .i64 (s : Int), v]] w fun e w' => ∃ v', e = .returned (.tuple #[v', .int .i64 0]) ∧ OwnD w' w.heap.size v' (renc s l) (fun _ => False) ∧ Below w.heap.size w w' := by
  obtain ⟨⟨s1, s2⟩, hn3, _⟩ := (rok_iff (s : Int) l).1 hk
  have hfine := Lib.hid (rok_fine hk)
  have hbytes := Lib.hid h.bytes
  have hc := rcheck_any s v l (w.alloc (.cells #[.int .i64 (s : Int), v] 59)) ⟨by omega, by omega⟩ (h.up (belA1 (belR _)))
  rw [rerr_yes hk] at hc
  have HI := Lib.hid h
  obtain ⟨ao, cap, rfl, hc1, hc2, _⟩ := h.shape
  obtain ⟨n, hn⟩ : ∃ n, n = l.length := ⟨_, rfl⟩
  have HN := Lib.hid hn
  have HE : Hid (renc s l = sealed ((([87, 82, 69, 67] ++ [s / 16777216 % 256, s / 65536 % 256, s / 256 % 256, s % 256, n % 256]) ++ l.flatMap rplace) ++ List.replicate (23 - 2 * n) 0) (l.map RI.b ++ List.replicate (3 - n) zero32) :: (l.map RI.b ++ List.replicate (3 - n) zero32)) := by
    show _ = _; rw [hn]; rfl
  rw [← hn] at hc1 hn3 hc HI ⊢
  obtain ⟨j0, hj, hy0, hy1, hy2⟩ := info_parts uint8_info
  obtain ⟨i0, hi, hz0, hz1, hz2⟩ := info_parts parts_info
  have kc := fun (w : World) (C : Array Value) (n c : Nat) => Lib.run_convert_bytes_const (P := Try.prog) w 48 5 C n c Try.underlying48 Try.underlying5
  obtain ⟨w0, hw0⟩ : ∃ w0, w0 = w.alloc (.cells #[.int .i64 (s : Int), .slice ao n cap] 59) := ⟨_, rfl⟩
  have HK : Hid (∀ W, Below w0.heap.size w0 W → W.cell? ⟨w.heap.size, 0, none⟩ = some (.int .i64 (s : Int)) ∧ W.cell? ⟨w.heap.size, 1, none⟩ = some (.slice ao n cap)) := by
    intro W hW
    rw [hw0] at hW
    exact box2 hW
  have B0 : Below w.heap.size w w0 := by rw [hw0]; exact belA1 (belR _)
  rw [← hw0] at hc
  have HC := Lib.hid hc
  have HW0 := Lib.hid hw0
  clear hc hw0 h hk hn
  go_enter Try.func66, Try.ntmps66
  go_wp2_with (first
    | (go_at_call 33; rw [← HW0.out]; refine Calls.mono HC.out ?_; rintro e w2 ⟨rfl, b2⟩; obtain ⟨c0, c1⟩ := HK.out _ b2; have d0 := fun o => Lib.cell?_alloc_marked o c0; have d1 := fun o => Lib.cell?_alloc_marked o c1)
    | (at_builtin; go_loud (refine wpList_append_full rfl _ _ 48 rfl j0 Try.underlying48 hj hy0 hy1 hy2 _ _ _ [87, 82, 69, 67] rfl ((Byt.lit w2 _ _ [87, 82, 69, 67] rfl rfl rfl (by decide) (by decide)).up (belA1 (belR _))) _ _ _ _ [s / 16777216 % 256, s / 65536 % 256, s / 256 % 256, s % 256, n % 256] rfl (Byt.lit _ _ _ _ (by simp) rfl (by simp [u8v]; omega) (by intro x hx; simp at hx; omega) (by simp)) (by simp) (by simp) ?_); intro v3 w3 O3 g3x; have b3 : Below w0.heap.size w0 w3 := belGN (belA2 b2) g3x; clear c0 c1 d0 d1 g3x; have O3 := own_mono O3 (belA2 b2).size; obtain ⟨c0, c1⟩ := HK.out _ b3; have d0 := fun o => Lib.cell?_alloc_marked o c0; have d1 := fun o => Lib.cell?_alloc_marked o c1))
  obtain ⟨l9, hl9⟩ : ∃ l9, l9 = [87, 82, 69, 67] ++ [s / 16777216 % 256, s / 65536 % 256, s / 256 % 256, s % 256, n % 256] := ⟨_, rfl⟩
  have L9 : Hid (l9.length = 9) := by show _ = _; rw [hl9]; rfl
  rw [← hl9] at O3 HE
  have W9 := Lib.hid hl9
  clear hl9 b2 kc
  clear c0 c1 d0 d1
  go_loopw [5, 6, 40] (fun a b i W => ∃ k : Nat, k ≤ n ∧ i = .int .i64 k ∧ Own W w0.heap.size a (l9 ++ (l.take k).flatMap rplace) ∧ OwnD W w0.heap.size b ((l.take k).map RI.b) (fun g => a.ownBlock = some g) ∧ Below w0.heap.size w0 W) (fun _ _ i _ => n - (intOf i).toNat)
  case atStart => exact ⟨0, Nat.zero_le _, rfl, by simpa using O3, OwnD.nil _ _ _, b3⟩
  case round =>
    obtain ⟨k, hk, rfl, O5, O6, B⟩ := hrel
    have Bw : Below w.heap.size w wr := belT B0 B
    obtain ⟨c0, c1⟩ := HK.out _ B
    have P5 : Hid ((l9 ++ (l.take k).flatMap rplace).length = 9 + 2 * k) := by show _ = _; rw [List.length_append, L9.out, rplace_len, List.length_take, ← HN.out]; omega
    by_cases hlt : k < n
    · obtain ⟨b, off, x, u, rfl, hbl, hx, hit⟩ := Items.get HI.out hlt
      have hxf := hfine.out x (List.mem_of_getElem? hx.out)
      obtain ⟨f1, f2, f3⟩ := (RI.fine_iff x).1 hxf
      obtain ⟨xd, xa, xb⟩ := x
      dsimp only at *
      obtain ⟨dn, rfl⟩ := Int.eq_ofNat_of_zero_le f1.1
      obtain ⟨an, rfl⟩ := Int.eq_ofNat_of_zero_le (show 0 ≤ xa by omega)
      have f1' : (dn : Int) ≤ 7 := f1.2
      have f2' : (an : Int) ≤ 51 := f2.2
      obtain ⟨au, cu, rfl, hu1, hu2⟩ := hit.2.2.2.1.shapeN f3
      have HIT : Hid (∀ W, Below w.heap.size w W → Itm W b (off + k * 3) ⟨dn, an, xb⟩ (.slice au 32 cu)) := fun W hW => hit.up hW hbl
      have HX3 := Lib.hid f3
      clear hit hxf f1 f2 f3
      obtain ⟨e0, e1, e2, ey, _⟩ := HIT.out _ Bw
      have ey := Lib.hid ey
      go_wp2_with (first
        | (at_builtin; go_loud (refine wpList_append_bytes_pl rfl (.tmp 44) (.tmp 51) 48 rfl j0 Try.underlying48 hj hy0 hy1 hy2 w0.heap.size u5 _ rfl (O5.up (belA2 (belR _))) _ _ _ _ [dn % 256, an % 256] rfl (Byt.lit _ _ _ _ (by simp) rfl (by simp [u8v]; omega) (by intro x hx; simp at hx; omega) (by simp)) (by rw [P5.out]; simp; omega) (by have := B.size; simp; omega) ?_); intro v5 w5 O5' g5 p5; have B5 : Below w0.heap.size w0 w5 := belG (belA2 B) g5 (fun g hg => O5.ge g hg); go_loud (have e2' : w5.cell? ⟨wr.heap.size, 2, none⟩ = some (.slice au 32 cu) := cell_grown (by exact box_up (belA1 (belR _)) 2 rfl) (by simp; omega) g5 (fun e => by have := O5.lt _ e; omega));
            have O6' := (O6.up (belA2 (belR _))).grow (O5.up (belA2 (belR _))) g5 p5; have ey5 := (HIT.out w5 (belT B0 B5)).2.2.2.1; have B5' := Lib.hid B5)
        | (go_at_call 99; refine Calls.mono (clone_any _ xb _ ey5 (by rw [HX3.out]; decide)) ?_; rintro e w6 ⟨cv, rfl, OC, b6⟩; obtain ⟨ac, cc, rfl, _, _⟩ := OC.byt.shapeN HX3.out)
        | (at_builtin; go_loud (refine wpList_append_rowD rfl (.tmp 53) (.tmp 57) 31 rfl i0 Try.underlying31 hi hz0 hz1 hz2 w0.heap.size u6 _ _ rfl w5 (belA1 b6) O6' (fun g hg => O5'.lt g hg) _ (.slice ac 32 cc) xb rfl (At.one _ _ _ (by first | rfl | simp)) (OC.up (belA1 (belR _))) (by rw [List.length_map, List.length_take]; omega) B5.size ?_); intro v6 w7 O7 g7))
      go_roundw
      case rel =>
        have O5'' := (O6'.up (belA1 b6)).keepOwn (O5'.up (belA1 b6)) g7
        refine ⟨k + 1, by omega, by go_num, ?_, ?_, belG (belT B5'.out (belA1 b6)) g7 (fun g hg => O6'.ge g hg)⟩
        · rw [take_succ_get hx.out, List.flatMap_append]
          simpa [rplace] using O5''
        · rw [take_succ_get hx.out, List.map_append]
          exact O7
      case measure => simp [intOf]; omega
    · obtain rfl : k = n := by omega
      have hlk : l.take k = l := List.take_of_length_le (by rw [← HN.out]; exact Nat.le_refl _)
      rw [hlk] at O5 O6 P5
      clear hlk
      obtain ⟨m, hm⟩ : ∃ m, m = 9 + 2 * k := ⟨_, rfl⟩
      have hm15 : m ≤ 15 := by omega
      rw [← hm] at P5
      have HM : Hid ((32 : Int) - (m : Int) = ((23 - 2 * k : Nat) : Int)) := by show _ = _; omega
      clear hm
      obtain ⟨ao5, cap5, rfl, h5a, h5b⟩ := O5.byt.shapeN P5.out
      go_wp2_with (first
        | (at_builtin; go_loud (refine wpList_append_zbytes_pl rfl (.tmp 60) (.tmp 63) 48 3 rfl j0 Try.underlying48 .i64 .i64 Try.underlying3 hj hy0 hy1 hy2 w0.heap.size _ _ rfl O5 (23 - 2 * k) (by show Value.int .i64 _ = _; rw [← HM.out]) (by omega) (by rw [P5.out]; omega) B.size ?_); intro v7 w7 O7 g7 p7)
        | fail)
      have O6' := O6.grow O5 g7 p7
      have B7 : Below w0.heap.size w0 w7 := belG B g7 (fun g hg => O5.ge g hg)
      obtain ⟨l32, hl32⟩ : ∃ l32, l32 = l9 ++ l.flatMap rplace ++ List.replicate (23 - 2 * k) 0 := ⟨_, rfl⟩
      rw [← hl32] at O7 HE
      have H32 : Hid (l32.length = 32) := by show _ = _; rw [hl32, List.length_append, List.length_append, L9.out, rplace_len, ← HN.out, List.length_replicate]; omega
      clear hl32 g7 p7 O5 O6 B
      go_loopw [6] (fun b W => ∃ j : Nat, j + k ≤ 3 ∧ sliceLen b = k + j ∧ Own W w0.heap.size v7 l32 ∧ OwnD W w0.heap.size b (l.map RI.b ++ List.replicate j zero32) (fun g => v7.ownBlock = some g) ∧ Below w0.heap.size w0 W) (fun b _ => 3 - sliceLen b)
      case atStart =>
        refine ⟨0, by omega, ?_, O7, by simpa using O6', B7⟩
        obtain ⟨a6, c6, e6, _, _⟩ := O6'.shape
        rw [e6]; show (List.map RI.b l).length = _; rw [List.length_map, ← HN.out]; rfl
      case round =>
        obtain ⟨j, hj3, hlen, P7, Q6, B⟩ := hrel
        have hlen2 : Hid ((l.map RI.b ++ List.replicate j zero32).length = k + j) := by show _ = _; rw [List.length_append, List.length_map, List.length_replicate, ← HN.out]
        obtain ⟨a6, c6, e6, _, _⟩ := Q6.shape
        rw [hlen2.out] at e6
        clear hlen
        by_cases hlt : k + j < 3
        · subst e6
          go_wp2_with (first
            | (at_make; refine wpList_make_bytes rfl _ _ 48 rfl j0 Try.underlying48 hj hy0 hy1 hy2 _ _ _ _ 32 rfl rfl rfl rfl (by decide) ?_; intro w9 OW b9)
            | (at_builtin; go_loud (refine wpList_append_rowD rfl (.tmp 68) (.tmp 70) 31 rfl i0 Try.underlying31 hi hz0 hz1 hz2 w0.heap.size _ _ _ rfl wr (belA1 b9) Q6 (fun g hg => P7.lt g hg) _ _ zero32 rfl (At.one _ _ _ (by first | rfl | simp)) (OW.up (belA1 (belR _))) (by rw [hlen2.out]; omega) B.size ?_); intro v6 w7 O9 g9))
          go_roundw
          case rel =>
            refine ⟨j + 1, by omega, ?_, (Q6.up (belA1 b9)).keepOwn (P7.up (belA1 b9)) g9, ?_, belG (belT B (belA1 b9)) g9 (fun g hg => Q6.ge g hg)⟩
            · obtain ⟨a8, c8, e8, _, _⟩ := O9.shape
              rw [e8]; show (_ ++ [zero32]).length = _; rw [List.length_append, hlen2.out]; rfl
            · rw [List.replicate_succ', ← List.append_assoc]
              exact O9
          case measure =>
            obtain ⟨a8, c8, e8, _, _⟩ := O9.shape
            rw [e8]; show 3 - (_ ++ [zero32]).length < 3 - (k + j); rw [List.length_append, hlen2.out]; show 3 - (k + j + 1) < _; omega
        · have hkj : j = 3 - k := by omega
          have hkj3 : k + j = 3 := by omega
          rw [hkj3] at e6 hlen2
          subst e6
          rw [hkj] at Q6 hlen2
          clear hkj hkj3 hlt
          have QP := Lib.hid Q6.parts
          obtain ⟨a7, c7, rfl, _, _⟩ := P7.byt.shapeN H32.out
          go_wp2_with (first
            | (go_at_call 95; go_loud (refine Calls.mono (seal_yes _ _ _ _ _ w0.heap.size P7 H32.out QP.out (by rw [hlen2.out]; omega)) ?_; rintro e w8 ⟨rfl, P8, g8⟩); have Q8 := Q6.grow P7 g8 (fun b hb => .inl hb); have B8 := belG B g8 (fun g hg => P7.ge g hg))
            | (at_builtin; go_loud (refine wpList_append_rowsD rfl (.tmp 76) (.tmp 77) 31 rfl i0 Try.underlying31 hi hz0 hz1 hz2 w0.heap.size w8 _ (.slice a7 32 c7) _ rfl rfl rfl P8 _ _ rfl Q8 (by rw [hlen2.out]; omega) (by rw [hlen2.out]; omega) B8.size ?_); intro v9 w9 O9 g9))
          go_ret2
          refine ⟨_, rfl, ?_, belT B0 (belG (v := .slice (some ⟨w8.heap.size, 0, none⟩) 1 1) (belA1 B8) g9 (fun g hg => by cases hg; exact B8.size))⟩
          rw [HE.out]
          exact O9.mono B0.size (fun _ _ h => h)
end Go.Proofs.Ytenjpldinnbcbaa
