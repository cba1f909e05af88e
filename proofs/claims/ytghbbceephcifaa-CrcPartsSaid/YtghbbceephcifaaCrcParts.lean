/- The walk of CrcParts (chapter 1): how bytes are parted does not count; one byte turned is found. True at every input. -/
import Derived.Test.YtghbbceephcifaaCrcSeals
import Derived.Deep.RegionWith
import Derived.Deep.RegionHeld3
import Derived.Deep.DrawnRows
import Derived.Test.YtghbbceephcifaaMake
import Derived.Deep.Cut
namespace Go.Proofs.Ytghbbceephcifaa
open Go.RowKit C
attribute [local go_sem ↓] Go.wp_at_zero Go.wp_at_succ
attribute [local irreducible] Go.Calls Byt Own Parts
set_option linter.unusedVariables false
set_option linter.unusedSimpArgs false
set_option maxRecDepth 100000
set_option maxHeartbeats 12000000

theorem right_dec {b : List Nat} {ls : List (List Nat)} (hb : ∀ c ∈ b, c < 256) (hl : ∀ l ∈ ls, ∀ c ∈ l, c < 256) (h : b.length = 32) : rightB b ls = decide (sealed b ls = b) := by
  have := right_iff hb hl
  by_cases hs : sealed b ls = b
  · rw [decide_eq_true hs]; exact this.2 ⟨h, hs⟩
  · rw [decide_eq_false hs]
    exact Bool.eq_false_iff.2 fun hr => hs (this.1 hr).2
/-- one byte of a sealed sector turned -/
theorem right_turn {s p : List Nat} {i c : Nat} (hl : s.length = 32) (hs : ∀ x ∈ s, x < 256) (hp : ∀ x ∈ p, x < 256) (hss : sealed s [p] = s) (hi : i < s.length) (hc : c < 256) :
    rightB (s.set i (s[i] ^^^ c)) [p] = (((c : Nat) : Int) == 0) := by
  have hsi := hs _ (List.getElem_mem hi)
  have hpp : ∀ l ∈ [p], ∀ x ∈ l, x < 256 := by intro l hl; rw [List.mem_singleton.1 hl]; exact hp
  by_cases h0 : c = 0
  · subst h0
    have e : s.set i (s[i] ^^^ 0) = s := by rw [Nat.xor_zero]; exact List.set_getElem_self hi
    rw [e, right_dec hs hpp hl, decide_eq_true hss]
    simp
  · have h1 : (((c : Nat) : Int) == 0) = false := by rw [beq_eq_false_iff_ne]; omega
    have hx : s[i] ^^^ c < 256 := Nat.xor_lt_two_pow (n := 8) hsi hc
    have hne : s[i] ^^^ c ≠ s[i] := by
      intro h
      have h7 : s[i] ^^^ (s[i] ^^^ c) = s[i] ^^^ s[i] := by rw [h]
      rw [← Nat.xor_assoc, Nat.xor_self, Nat.zero_xor] at h7
      exact h0 h7
    have hs' : ∀ x ∈ s.set i (s[i] ^^^ c), x < 256 := fun x hx2 => by
      rcases List.mem_or_eq_of_mem_set hx2 with h | h
      · exact hs x h
      · rw [h]; exact hx
    rw [h1, right_dec hs' hpp (by rw [List.length_set]; exact hl), decide_eq_false_iff_not]
    intro h
    rcases Nat.lt_or_ge i 28 with hi28 | hi28
    · have e1 : (s.set i (s[i] ^^^ c)).take 28 = (s.take 28).set i (s[i] ^^^ c) := by rw [List.take_set]
      have e2 : (s.set i (s[i] ^^^ c)).drop 28 = s.drop 28 := by rw [List.drop_set_of_lt hi28]
      have h2 := congrArg (List.drop 28) h
      rw [sealed_drop _ (by rw [List.length_set]; exact hl), e1, e2] at h2
      have h3 := congrArg (List.drop 28) hss
      rw [sealed_drop _ hl] at h3
      have ht : ∀ x ∈ s.take 28, x < 256 := fun x hx => hs x (List.mem_of_mem_take hx)
      have ht' : ∀ x ∈ (s.take 28).set i (s[i] ^^^ c), x < 256 := fun x hx2 => by
        rcases List.mem_or_eq_of_mem_set hx2 with h | h
        · exact ht x h
        · rw [h]; exact hx
      have hl1 : crc (s.take 28 :: [p]) < 4294967296 := crc_lt (by intro l hl; simp at hl; rcases hl with rfl | rfl; exact ht; exact hp)
      have hl2 : crc ((s.take 28).set i (s[i] ^^^ c) :: [p]) < 4294967296 := crc_lt (by intro l hl; simp at hl; rcases hl with rfl | rfl; exact ht'; exact hp)
      have h4 := congrArg num (h2.trans h3.symm)
      rw [num_four hl1, num_four hl2] at h4
      have h5 := crc_inj h4
      simp only [List.flatten_cons, List.flatten_nil, List.append_nil] at h5
      have hit : i < (s.take 28).length := by rw [List.length_take]; omega
      rw [crcF_append, crcF_append] at h5
      have h6 := crcF_inj p (crcF_lt _ (by decide) ht') (crcF_lt _ (by decide) ht) hp h5
      have h7 := crcF_set (by decide) ht hit hx h6
      rw [List.getElem_take] at h7
      exact hne h7
    · have e1 : (s.set i (s[i] ^^^ c)).take 28 = s.take 28 := by rw [List.take_set_of_le hi28]
      have h2 : sealed (s.set i (s[i] ^^^ c)) [p] = sealed s [p] := by unfold sealed; rw [e1]
      rw [h2, hss] at h
      have h3 := congrArg (fun l => l[i]?) h
      rw [List.getElem?_set_self hi, List.getElem?_eq_getElem hi] at h3
      exact hne (Option.some.inj h3).symm
/-- one byte of the part turned -/
theorem right_turn_part {b p : List Nat} {i c : Nat} (hb : b.length = 32) (hb8 : ∀ x ∈ b, x < 256) (hp : ∀ x ∈ p, x < 256) (hi : i < p.length) (hc : c < 256) :
    rightB (sealed b [p]) [p.set i (p[i] ^^^ c)] = (((c : Nat) : Int) == 0) := by
  rw [right_dec (sealed_byte hb8) ?_ (sealed_len [p] hb), seal_turn hb hb8 hp hi hc]
  intro l hl x hx
  rw [List.mem_singleton.1 hl] at hx
  rcases List.mem_or_eq_of_mem_set hx with h | h
  · exact hp x h
  · rw [h]; exact Nat.xor_lt_two_pow (n := 8) (hp _ (List.getElem_mem hi)) hc
theorem right_parted (b x y : List Nat) : rightB b [x, y] = rightB b [x ++ y] := by unfold rightB crc; simp
theorem sum_eq (v : Value) (ls : List (List Nat)) (w : World) (X : Nat) (h : Parts w v ls) (hx : crc ls = X) :
    Calls Try.prog 17 #[v] w fun e w' => e = .returned (.int .u32 (X : Nat)) ∧ w = w' := hx ▸ sum_any v ls w h
theorem crcParts_walk (va : Value) (a : List Nat) (cut at' : Int) (c : Nat) (w : World) (ha : Byt w va a) (hc : c < 256) (h1 : -9223372036854775808 ≤ cut ∧ cut ≤ 9223372036854775807) (h2 : -9223372036854775808 ≤ at' ∧ at' ≤ 9223372036854775807) :
    Calls Try.prog 7 #[va, .int .i64 cut, .int .i64 at', .int .u8 c] w fun e w' => e = .returned (.bool true) ∧ Below w.heap.size w w' := by
  obtain ⟨j0, hj, hy0, hy1, hy2⟩ := info_parts uint8_info
  go_enter Try.func7, Try.ntmps7
  go_wp2_with fail
  refine (cut_ex va a 100 w ha (by decide)).mono ?_
  rintro e w1 ⟨v1, la, rfl, _, A1, la100, b1⟩
  obtain ⟨ao1, cap1, rfl, q1, q2⟩ := A1.byt.shape
  go_wp2_with fail
  refine Calls.mono (within_any cut _ _ (by omega) h1.1 h1.2) ?_
  have hw1 := withinI_ge cut (la.length + 1)
  have hw2 := withinI_lt cut (la.length + 1) (by omega)
  obtain ⟨k, hk⟩ := Int.eq_ofNat_of_zero_le hw1
  rw [hk] at hw1 hw2 ⊢
  have hkl : k ≤ la.length := by omega
  clear hk hw1 hw2
  rintro e w2 ⟨rfl, rfl⟩
  go_upto_region 3 with fail
  have hT := A1.byt.takeI hkl
  have hD := A1.byt.dropI hkl
  obtain ⟨aod, haod⟩ : ∃ x, (if cap1 = k then ao1 else Option.map (fun x => x.add k) ao1) = x := ⟨_, rfl⟩
  have T1 := Lib.hid hT
  have D1 : Hid (Byt w1 (.slice aod (la.length - k) (cap1 - k)) (la.drop k)) := by rw [← haod]; exact hD
  clear hT hD
  obtain ⟨X, hX⟩ : ∃ X, crc [la] = X := ⟨_, rfl⟩
  have E1 := Lib.hid hX
  have E2 : Hid (crc [la.take k, la.drop k] = X) := by show _ = _; rw [← hX]; simp [crc]
  have E4 : Hid (crc [[], la.take k, [], la.drop k] = X) := by show _ = _; rw [← hX]; simp [crc]
  clear hX
  have kcap : k ≤ cap1 := by omega
  go_upto_region 3 with fail
  go_cut [46] from 14 (fun s w' => s = .bool false ∧ Below w1.heap.size w1 w')
  case first =>
    have A := A1.byt
    have T := T1.out
    have D := D1.out
    clear A1 T1 D1
    have hB1 : Below w1.heap.size w1 w1 := belR _
    go_region_held3 (fun _ => True) (trivial) ((go_at_call 17; (first | (refine Calls.mono (sum_eq _ [la] _ X (by first | exact (Parts.lit1 (by simp) (A.up (by iterate 8 try (first | assumption | apply belDr | apply belAlloc)))).drew | exact (Parts.lit1 (by simp) (A.up (by iterate 8 try (first | assumption | apply belDr | apply belAlloc)))).alloc.drew | exact (Parts.lit1 (by simp) (A.up (by iterate 8 try (first | assumption | apply belDr | apply belAlloc)))) | exact (Parts.lit1 (by simp) (A.up (by iterate 8 try (first | assumption | apply belDr | apply belAlloc)))).alloc) E1.out) ?_) | (refine Calls.mono (sum_eq _ [la.take k, la.drop k] _ X (by first | exact (Parts.lit2 (by simp) (T.up (by iterate 8 try (first | assumption | apply belDr | apply belAlloc))) (D.up (by iterate 8 try (first | assumption | apply belDr | apply belAlloc)))).drew | exact (Parts.lit2 (by simp) (T.up (by iterate 8 try (first | assumption | apply belDr | apply belAlloc))) (D.up (by iterate 8 try (first | assumption | apply belDr | apply belAlloc)))).alloc.drew | exact (Parts.lit2 (by simp) (T.up (by iterate 8 try (first | assumption | apply belDr | apply belAlloc))) (D.up (by iterate 8 try (first | assumption | apply belDr | apply belAlloc)))) | exact (Parts.lit2 (by simp) (T.up (by iterate 8 try (first | assumption | apply belDr | apply belAlloc))) (D.up (by iterate 8 try (first | assumption | apply belDr | apply belAlloc)))).alloc) E2.out) ?_) | (refine Calls.mono (sum_eq _ [[], la.take k, [], la.drop k] _ X (by first | exact (Parts.lit4 (by simp) (Byt.nil _) (T.up (by iterate 8 try (first | assumption | apply belDr | apply belAlloc))) (Byt.nil _) (D.up (by iterate 8 try (first | assumption | apply belDr | apply belAlloc)))).drew | exact (Parts.lit4 (by simp) (Byt.nil _) (T.up (by iterate 8 try (first | assumption | apply belDr | apply belAlloc))) (Byt.nil _) (D.up (by iterate 8 try (first | assumption | apply belDr | apply belAlloc)))).alloc.drew | exact (Parts.lit4 (by simp) (Byt.nil _) (T.up (by iterate 8 try (first | assumption | apply belDr | apply belAlloc))) (Byt.nil _) (D.up (by iterate 8 try (first | assumption | apply belDr | apply belAlloc)))) | exact (Parts.lit4 (by simp) (Byt.nil _) (T.up (by iterate 8 try (first | assumption | apply belDr | apply belAlloc))) (Byt.nil _) (D.up (by iterate 8 try (first | assumption | apply belDr | apply belAlloc)))).alloc) E4.out) ?_)); rintro e w' ⟨rfl, rfl⟩))
    all_goals (go_wp2; go_meet; case rel => exact ⟨rfl, (by iterate 8 try (first | assumption | apply belDr | apply belAlloc))⟩)
  case rest =>
    obtain ⟨rfl, bc⟩ := hcut
    obtain ⟨j0, hj, hy0, hy1, hy2⟩ := info_parts uint8_info
    have hj1 : (Try.prog.info? 5).map (·.size) = some 1 := by rw [hj]; simp [hy1]
    have HJ := Lib.hid hj1
    clear hj1
    have A2 := A1.up bc
    have b2 := belT b1 bc
    clear E1 E2 E4 T1 D1
    go_wp2_with (first
      | (at_make; go_loud (refine wpList_make_bytes rfl _ _ 23 rfl j0 Try.underlying23 hj hy0 hy1 hy2 _ _ _ _ 32 rfl rfl rfl rfl (by decide) ?_); intro w3 O3 b3)
      | (refine wpList_copy_bytes rfl _ _ 23 23 rfl Try.underlying23 HJ.out _ _ rfl rfl wc.heap.size (List.replicate 32 0) la O3 (A2.byt.up b3) ?_; intro w4 O4 g4)
      | fail)
    obtain ⟨lb, hlb⟩ : ∃ lb, lb = over (List.replicate 32 0) la := ⟨_, rfl⟩
    have HLB : Hid (lb.length = 32) := by rw [hlb]; show _ = _; rw [over_len]; simp
    rw [← hlb] at O4
    have c4 : Below wc.heap.size wc w4 := belG b3 g4 (fun g hg => O4.ge g hg)
    have HA := Lib.hid A2.byt
    have HT := Lib.hid (A2.byt.takeI hkl)
    have HDx : Hid (Byt wc (.slice aod (la.length - k) (cap1 - k)) (la.drop k)) := by rw [← haod]; exact A2.byt.dropI hkl
    have HD := HDx
    have HB := Lib.hid O4
    have hlt4 : wc.heap.size < w4.heap.size := O4.lt _ rfl
    have S8 := O4.byt.bytes
    have A8 := A2.byt.bytes
    obtain ⟨S, hS⟩ : ∃ S, S = sealed lb [la] := ⟨_, rfl⟩
    have HS : Hid (S.length = 32) := by rw [hS]; exact sealed_len [la] HLB.out
    have HS8 : Hid (∀ x ∈ S, x < 256) := by rw [hS]; exact sealed_byte S8
    have HSi : Hid (sealed S [la] = S) := by rw [hS]; exact sealed_idem [la] HLB.out
    have HR1 : Hid (rightB S [la] = true) := by
      rw [hS]; exact right_sealed HLB.out S8 (by intro l hl; rw [List.mem_singleton.1 hl]; exact A8)
    have HR2 : Hid (rightB S [la.take k, la.drop k] = true) := by show _ = _; rw [right_parted, List.take_append_drop]; exact HR1.out
    have HSt := fun (i : Nat) (hi : i < la.length) => right_turn_part (b := lb) (p := la) (i := i) (c := c) HLB.out S8 A8 hi hc
    have HX := fun (i : Nat) (hi : i < S.length) => right_turn (s := S) (p := la) (i := i) (c := c) HS.out HS8.out A8 HSi.out hi hc
    rw [← hS] at HSt
    have HSt := Lib.hid HSt
    have HX := Lib.hid HX
    have HA8 := Lib.hid A8
    clear O3 b3 g4 O4 HDx S8 A8 hlb
    have hBc : Below wc.heap.size wc wc := belR _
    go_region_held3 (fun _ => True) (trivial) ((first
      | (go_at_call 23; refine Calls.mono (seal_yes _ _ lb [la] _ wc.heap.size (HB.out.up (by iterate 8 try (first | exact belR _ | apply belDr | apply belAlloc))) HLB.out (by first | exact (Parts.lit1 (by first | rfl | simp) (HA.out.up (by iterate 8 try (first | assumption | apply belDr | apply belAlloc)))).drew | exact Parts.lit1 (by first | rfl | simp) (HA.out.up (by iterate 8 try (first | assumption | apply belDr | apply belAlloc)))) (by simp)) ?_; rw [← hS]; rintro e w5 ⟨rfl, O5, g5⟩; have c5 : Below wc.heap.size wc w5 := belG (by iterate 8 try (first | assumption | apply belDr | apply belAlloc)) g5 (fun g hg => by cases hg; exact Nat.le_refl _))
      | (go_at_call 26; refine Calls.mono (right_any _ _ S [la] _ (by first | exact O5.byt.alloc.drew | exact O5.byt.alloc) (by first | exact (Parts.lit1 (by first | rfl | simp) (HA.out.up (by iterate 8 try (first | assumption | apply belDr | apply belAlloc)))).drew | exact Parts.lit1 (by first | rfl | simp) (HA.out.up (by iterate 8 try (first | assumption | apply belDr | apply belAlloc)))) (by simp)) ?_; rw [HR1.out]; rintro e w6 ⟨rfl, b6⟩; have c6 : Below wc.heap.size wc w6 := belT (by iterate 8 try (first | assumption | apply belDr | apply belAlloc)) b6; have c56 : Below w5.heap.size w5 w6 := belT (by iterate 8 try (first | exact belR _ | apply belDr | apply belAlloc)) b6)
      | (go_at_call 26; refine Calls.mono (right_any _ _ S [la.take k, la.drop k] _ (by first | exact (O5.byt.up c56).alloc.drew | exact (O5.byt.up c56).alloc) (by first | exact (Parts.lit2 (by first | rfl | simp) (HT.out.up (by iterate 8 try (first | assumption | apply belDr | apply belAlloc))) (HD.out.up (by iterate 8 try (first | assumption | apply belDr | apply belAlloc)))).drew | exact Parts.lit2 (by first | rfl | simp) (HT.out.up (by iterate 8 try (first | assumption | apply belDr | apply belAlloc))) (HD.out.up (by iterate 8 try (first | assumption | apply belDr | apply belAlloc)))) (by simp)) ?_; rw [HR2.out]; rintro e w7 ⟨rfl, b7⟩; have c7 : Below wc.heap.size wc w7 := belT (by iterate 8 try (first | assumption | apply belDr | apply belAlloc)) b7; have c57 : Below w5.heap.size w5 w7 := belT (belT c56 (by iterate 8 try (first | exact belR _ | apply belDr | apply belAlloc))) b7)))
    have B7 := O5.up c57
    clear O5 g5 c5 c6 c56 c57 b6 b7 HT HD HR1 HR2 HB HLB hS HSi HS8
    have A7 := HA.out.up c7
    go_wp2_with fail
    refine Calls.mono (copy_any _ S _ B7.byt (by rw [HS.out]; decide)) ?_
    rintro e w8 ⟨v8, rfl, O8, b8⟩
    obtain ⟨g8, cap8, e8, h81, h82, h83, h84⟩ := O8.shape (by rw [HS.out]; decide)
    rw [HS.out] at e8
    subst e8
    go_wp2_with fail
    refine Calls.mono (copy_any _ la _ (A7.up b8) (by omega)) ?_
    rintro e w9 ⟨v9, rfl, O9, b9⟩
    obtain ⟨ao9, cap9, rfl, _, _⟩ := O9.byt.shape
    go_wp2_with fail
    refine Calls.mono (within_any at' (32 + (la.length : Int)) _ (by omega) h2.1 h2.2) ?_
    have hw1 := withinI_ge at' (32 + (la.length : Int))
    have hw2 := withinI_lt at' (32 + (la.length : Int)) (by omega)
    obtain ⟨i, hi⟩ := Int.eq_ofNat_of_zero_le hw1
    rw [hi] at hw1 hw2 ⊢
    have hil : i < 32 + la.length := by omega
    clear hi hw1 hw2
    rintro e wx ⟨rfl, rfl⟩
    by_cases hi : i < 32
    · have hiS : i < S.length := by rw [HS.out]; exact hi
      obtain ⟨x, hx⟩ : ∃ x, x = S[i] := ⟨_, rfl⟩
      have hsk : S[i]? = some x := by rw [hx]; exact List.getElem?_eq_getElem hiS
      have O89 := O8.up b9
      obtain ⟨hx8, hxc, hxf⟩ := O89.cells hsk
      have hxx := bx8 hx8 hc
      have hxc8 := G.xor8 hx8 hc
      obtain ⟨OT, gT⟩ := O89.store i (x ^^^ c) hxc8
      have HR : Hid (rightB (S.set i (x ^^^ c)) [la] = (((c : Nat) : Int) == 0)) := by show _ = _; rw [hx]; exact HX.out i hiS
      have cT : Below wc.heap.size wc (w9.setCell ⟨g8, i, none⟩ (.int .u8 ((x ^^^ c : Nat) : Int))) := belT c7 ((belT b8 b9).grown gT (belT b8 b9).size (fun g hg => by cases hg; exact h81))
      have TX := OT.byt
      have TY : Byt (w9.setCell ⟨g8, i, none⟩ (.int .u8 ((x ^^^ c : Nat) : Int))) (.slice ao9 la.length cap9) la := (Own.apart (u := .slice (some ⟨g8, 0, none⟩) 32 cap8) O9 gT (fun g hg => by cases hg; exact h82)).byt
      have TB : Byt (w9.setCell ⟨g8, i, none⟩ (.int .u8 ((x ^^^ c : Nat) : Int))) _ S := B7.byt.up ((belT b8 b9).grown gT (belT b8 b9).size (fun g hg => by cases hg; exact h81))
      clear hx hsk OT gT O89 O8 O9
      go_wp2_with fail
      refine Calls.mono (right_any _ _ _ _ _ (TX.up (belA1 (belR _))) (Parts.lit1 (by first | rfl | simp) TY) (by simp)) ?_
      rw [HR.out]
      rintro e w9 ⟨rfl, b9⟩
      have c9 : Below wc.heap.size wc w9 := belT cT (belT (belA1 (belR _)) b9)
      have B31 : Byt w9 (.slice (some ⟨wc.heap.size, 0, none⟩) 31 32) (S.take 31) := (TB.up (belT (belA1 (belR _)) b9)).takeI (by decide)
      go_wp2_with fail
      refine Calls.mono (right_no _ _ _ _ (B31.up (belA1 (belR _))) (by rw [List.length_take]; have := HS.out; omega)) ?_
      rintro e wx ⟨rfl, rfl⟩
      go_wp2_with fail
      refine Calls.mono (right_no _ _ [] _ (Byt.nil _) (by simp)) ?_
      rintro e wx ⟨rfl, rfl⟩
      go_wp2_with fail
      refine Calls.mono (wakes1_any _) ?_
      rintro e w10 ⟨rfl, b10⟩
      go_wp2_with fail
      go_ret
      exact ⟨rfl, belT b2 (belT (belA1 c9) b10)⟩
    · obtain ⟨j, hj⟩ : ∃ j, i = 32 + j := ⟨i - 32, by omega⟩
      have hjl : j < la.length := by omega
      obtain ⟨g9, cap9', e9, h91, h92, h93, h94⟩ := O9.shape (by omega)
      cases e9
      have hji : (i : Int) - 32 = (j : Int) := by omega
      obtain ⟨x, hx⟩ : ∃ x, x = la[j] := ⟨_, rfl⟩
      have hsk : la[j]? = some x := by rw [hx]; exact List.getElem?_eq_getElem hjl
      obtain ⟨hx8, hxc, hxf⟩ := O9.cells hsk
      have hxx := bx8 hx8 hc
      have hxc8 := G.xor8 hx8 hc
      obtain ⟨OT, gT⟩ := O9.store j (x ^^^ c) hxc8
      have HR : Hid (rightB S [la.set j (x ^^^ c)] = (((c : Nat) : Int) == 0)) := by show _ = _; rw [hx]; exact HSt.out j hjl
      have c89 : Below w8.heap.size w8 (w9.setCell ⟨g9, j, none⟩ (.int .u8 ((x ^^^ c : Nat) : Int))) := b9.grown gT b9.size (fun g hg => by cases hg; exact h91)
      have cT : Below wc.heap.size wc (w9.setCell ⟨g9, j, none⟩ (.int .u8 ((x ^^^ c : Nat) : Int))) := belT c7 (belT b8 c89)
      have TX : Byt (w9.setCell ⟨g9, j, none⟩ (.int .u8 ((x ^^^ c : Nat) : Int))) _ S := O8.byt.up c89
      have TY := OT.byt
      have TB : Byt (w9.setCell ⟨g9, j, none⟩ (.int .u8 ((x ^^^ c : Nat) : Int))) _ S := B7.byt.up (belT b8 c89)
      clear hx hsk OT gT O8 O9 hj
      go_wp2_with fail
      refine Calls.mono (right_any _ _ _ _ _ (TX.up (belA1 (belR _))) (Parts.lit1 (by first | rfl | simp) TY) (by simp)) ?_
      rw [HR.out]
      rintro e w9 ⟨rfl, b9⟩
      have c9 : Below wc.heap.size wc w9 := belT cT (belT (belA1 (belR _)) b9)
      have B31 : Byt w9 (.slice (some ⟨wc.heap.size, 0, none⟩) 31 32) (S.take 31) := (TB.up (belT (belA1 (belR _)) b9)).takeI (by decide)
      go_wp2_with fail
      refine Calls.mono (right_no _ _ _ _ (B31.up (belA1 (belR _))) (by rw [List.length_take]; have := HS.out; omega)) ?_
      rintro e wx ⟨rfl, rfl⟩
      go_wp2_with fail
      refine Calls.mono (right_no _ _ [] _ (Byt.nil _) (by simp)) ?_
      rintro e wx ⟨rfl, rfl⟩
      go_wp2_with fail
      refine Calls.mono (wakes1_any _) ?_
      rintro e w10 ⟨rfl, b10⟩
      go_wp2_with fail
      go_ret
      exact ⟨rfl, belT b2 (belT (belA1 c9) b10)⟩
theorem crcParts_law (W : World) (va : Value) (a : List Nat) (ha : Byt W va a) (_ : a.length ≤ 140737488351232) (cut : Int) (h1 : -9223372036854775808 ≤ cut ∧ cut ≤ 9223372036854775807) (at' : Int) (h2 : -9223372036854775808 ≤ at' ∧ at' ≤ 9223372036854775807) (c : Int) (hc : 0 ≤ c ∧ c ≤ 255) :
    Calls Try.prog 7 #[va, .int .i64 cut, .int .i64 at', .int .u8 c] W fun e W' => e = .returned (.bool true) ∧ Below W.heap.size W W' := by
  obtain ⟨m, rfl⟩ := Int.eq_ofNat_of_zero_le hc.1
  exact crcParts_walk va a cut at' m W ha (by omega) h1 h2
end Go.Proofs.Ytghbbceephcifaa
