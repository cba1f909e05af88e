/- The walk of CrcSeals (chapter 1). True at every input. -/
import Derived.Test.YtghbbceephcifaaCrcLaws
import Derived.Test.YtghbbceephcifaaMake
import Derived.RegionCalls
import Derived.Deep.RegionWith
import Derived.Deep.RegionHeld3
import Derived.Deep.DrawnRows
namespace Go.Proofs.Ytghbbceephcifaa
open Go.RowKit C
attribute [local go_sem ↓] Go.wp_at_zero Go.wp_at_succ
set_option linter.unusedVariables false
set_option linter.unusedSimpArgs false
set_option maxRecDepth 100000
set_option maxHeartbeats 4000000

/-- an operation that is wanted may be met as one without a guard -/
theorem wpList_unguard {P : Program} {ops : Array Oper} {Q : Exit → Act → World → Prop} {a : Act} {w : World} {rest : List Oper} {o : Oper} (hw : Region.wanted o (yielded ops a.tmps) = true)
    (h : wpList P ops Q ({ o with guard := none } :: rest) a w) : wpList P ops Q (o :: rest) a w := by
  unfold wpList at h ⊢
  rw [if_pos hw]
  rw [if_pos (by simp [Region.wanted])] at h
  exact h
/-- sealed again with one byte of the part turned: the same if nothing was turned -/
theorem seal_turn {b p : List Nat} {i c : Nat} (hb : b.length = 32) (hb8 : ∀ x ∈ b, x < 256) (hp : ∀ x ∈ p, x < 256) (hi : i < p.length) (hc : c < 256) :
    decide (sealed (sealed b [p]) [p.set i (p[i] ^^^ c)] = sealed b [p]) = (((c : Nat) : Int) == 0) := by
  have e28 : (sealed b [p]).take 28 = b.take 28 := sealed_take [p] hb
  have hpi := hp _ (List.getElem_mem hi)
  by_cases h0 : c = 0
  · subst h0
    have e : p.set i (p[i] ^^^ 0) = p := by rw [Nat.xor_zero]; exact List.set_getElem_self hi
    rw [e, sealed_idem [p] hb]
    simp
  · have h1 : (((c : Nat) : Int) == 0) = false := by rw [beq_eq_false_iff_ne]; omega
    rw [h1, decide_eq_false_iff_not]
    intro h
    have hx : p[i] ^^^ c < 256 := Nat.xor_lt_two_pow (n := 8) hpi hc
    have h2 : four (crc ((sealed b [p]).take 28 :: [p.set i (p[i] ^^^ c)])) = four (crc (b.take 28 :: [p])) := by
      have h3 := congrArg (List.drop 28) h
      rwa [sealed_drop _ (sealed_len [p] hb), sealed_drop _ hb] at h3
    have ht : ∀ x ∈ b.take 28, x < 256 := fun x hx => hb8 x (List.mem_of_mem_take hx)
    have hset : ∀ x ∈ p.set i (p[i] ^^^ c), x < 256 := fun x hx2 => by
      rcases List.mem_or_eq_of_mem_set hx2 with h | h
      · exact hp x h
      · rw [h]; exact hx
    have hl1 : crc (b.take 28 :: [p]) < 4294967296 := crc_lt (by intro l hl; simp at hl; rcases hl with rfl | rfl; exact ht; exact hp)
    have hl2 : crc (b.take 28 :: [p.set i (p[i] ^^^ c)]) < 4294967296 := crc_lt (by intro l hl; simp at hl; rcases hl with rfl | rfl; exact ht; exact hset)
    rw [e28] at h2
    have h4 := congrArg num h2
    rw [num_four hl1, num_four hl2] at h4
    have h5 := crc_inj h4
    simp only [List.flatten_cons, List.flatten_nil, List.append_nil] at h5
    rw [crcF_append, crcF_append] at h5
    have h6 := crcF_set (crcF_lt _ (by decide) ht) hp hi hx h5
    have h7 : p[i] ^^^ (p[i] ^^^ c) = p[i] ^^^ p[i] := by rw [h6]
    rw [← Nat.xor_assoc, Nat.xor_self, Nat.zero_xor] at h7
    exact h0 h7
attribute [local irreducible] Go.Calls Byt Own Parts
theorem crcSeals_walk (va vp : Value) (a p0 : List Nat) (at' : Int) (c : Nat) (w : World) (ha : Byt w va a) (hp : Byt w vp p0) (hc : c < 256) (h2 : -9223372036854775808 ≤ at' ∧ at' ≤ 9223372036854775807) :
    Calls Try.prog 5 #[va, vp, .int .i64 at', .int .u8 c] w fun e w' => e = .returned (.bool true) ∧ Below w.heap.size w w' := by
  obtain ⟨j0, hj, hy0, hy1, hy2⟩ := info_parts uint8_info
  have hj1 : (Try.prog.info? 5).map (·.size) = some 1 := by rw [hj]; simp [hy1]
  have HJ := Lib.hid hj1
  clear hj1
  obtain ⟨aoa, capa, rfl, qa1, qa2⟩ := ha.shape
  go_enter Try.func5, Try.ntmps5
  go_wp2_with (first
    | (at_make; go_loud (refine wpList_make_bytes rfl _ _ 23 rfl j0 Try.underlying23 hj hy0 hy1 hy2 _ _ _ _ 32 rfl rfl rfl rfl (by decide) ?_); intro w1 O1 b1)
    | (refine wpList_copy_bytes rfl _ _ 23 23 rfl Try.underlying23 HJ.out _ _ rfl rfl w.heap.size (List.replicate 32 0) a O1 (ha.up b1) ?_; intro w2 O2 g2)
    | fail)
  obtain ⟨lb, hlb⟩ : ∃ lb, lb = over (List.replicate 32 0) a := ⟨_, rfl⟩
  have HLB : Hid (lb.length = 32) := by rw [hlb]; show _ = _; rw [over_len]; simp
  rw [← hlb] at O2
  clear hlb O1 ha
  have b2 : Below w.heap.size w w2 := belG b1 g2 (fun g hg => O2.ge g hg)
  clear b1 g2
  have B2 := O2.byt
  refine Calls.mono (copy_any _ _ _ B2 (by rw [HLB.out]; decide)) ?_
  rintro e w3 ⟨v3, rfl, O3, b3⟩
  obtain ⟨ao3, cap3, e3, hle3, _⟩ := O3.byt.shape
  rw [HLB.out] at e3 hle3
  subst e3
  go_wp2_with fail
  refine Calls.mono (cut_ex vp p0 20 w3 (hp.up (belT b2 b3)) (by decide)) ?_
  rintro e w4 ⟨v4, lp, rfl, _, O4, lp20, b4⟩
  obtain ⟨ao4, cap4, rfl, _, _⟩ := O4.byt.shape
  clear hp
  go_wp2_with (first
    | (at_builtin; go_loud (refine wpList_append_bytes rfl _ _ 23 rfl j0 Try.underlying23 hj hy0 hy1 hy2 w3.heap.size _ _ rfl (O4.up (belA1 (belR _))) _ _ rfl (Byt.lit1 _ 7 _ (by simp) (by decide)) (by simp only [List.length_singleton]; omega) (by have := b4.size; first | omega | (simp; omega)) ?_); intro v5 w5 O5 g5)
    | fail)
  obtain ⟨q, hq⟩ : ∃ q, q = lp ++ [7] := ⟨_, rfl⟩
  have hql : q.length = lp.length + 1 := by rw [hq]; simp
  rw [← hq] at O5
  obtain ⟨n, hn⟩ : ∃ n, n = q.length := ⟨_, rfl⟩
  have hn21 : n ≤ 21 ∧ 0 < n := by omega
  have HQL : Hid (q.length = n) := hn.symm
  obtain ⟨g5b, cap5, e5, h51, h52, h53, h54⟩ := O5.shape (by omega)
  rw [← hn] at e5
  subst e5
  clear hq hql hn
  have c25 : Below w2.heap.size w2 w5 := belG (belA1 (belT b3 b4)) g5 (fun g hg => by have := O4.ge g hg; have := b3.size; omega)
  have c35 : Below w3.heap.size w3 w5 := belG (belA1 b4) g5 (fun g hg => O4.ge g hg)
  have B5 := O2.up c25
  have W5 := O3.up c35
  have hs1 : w.heap.size < w2.heap.size := O2.lt _ rfl
  have hs3 := b3.size
  have c5 := belT b2 c25
  clear O2 O3 O4 B2 b2 b3 b4 c25 c35 g5
  have HB := Lib.hid B5
  have HWa := Lib.hid W5
  have HQ := Lib.hid O5
  clear B5 W5 O5
  have hc3b : (28 : Int) ≤ (cap3 : Int) := by omega
  have k6 : Hid ((sealed lb [q]).take 28 = lb.take 28) := Lib.hid (sealed_take [q] HLB.out)
  have hB5 : Below w5.heap.size w5 w5 := belR _
  go_region_held3 (fun _ => True) (trivial) ((first
    | (go_at_call 23; go_loud (refine Calls.mono (seal_yes _ _ lb [q] _ w.heap.size (HB.out.up (by iterate 8 try (first | assumption | apply belDr | apply belAlloc))) HLB.out (by first | exact (Parts.lit1 (by simp) (HQ.out.byt.up (by iterate 8 try (first | assumption | apply belDr | apply belAlloc)))).drew | exact Parts.lit1 (by simp) (HQ.out.byt.up (by iterate 8 try (first | assumption | apply belDr | apply belAlloc)))) (by simp)) ?_); rintro e w6 ⟨rfl, O6, g6⟩; go_loud (have Q6 := Own.apart (HQ.out.up (by iterate 8 try (first | assumption | apply belDr | apply belAlloc))) g6 (fun g hg => by cases hg; exact Nat.lt_of_lt_of_le hs1 hs3)); go_loud (have c6 : Below w.heap.size w w6 := belG (belT c5 (by iterate 8 try (first | assumption | apply belDr | apply belAlloc))) g6 (fun g hg => by cases hg; exact Nat.le_refl _)))
    | (go_at_call 24; refine Calls.mono (same_any _ _ ((sealed lb [q]).take 28) (lb.take 28) _ (by first | exact O6.byt.takeI (by decide) | exact (O6.byt.takeI (by decide)).drew) (by first | exact ((HWa.out.up (by iterate 8 try (first | assumption | apply belDr | apply belAlloc))).apart g6 (fun g hg => by cases hg; exact hs1)).byt.takeI (by decide) | exact (((HWa.out.up (by iterate 8 try (first | assumption | apply belDr | apply belAlloc))).apart g6 (fun g hg => by cases hg; exact hs1)).byt.takeI (by decide)).drew)) ?_; rw [decide_eq_true k6.out]; rintro e w7 ⟨rfl, d7⟩; have c67 : Below w6.heap.size w6 w7 := (by first | exact d7.below _ | exact belT (belDr (belR _)) (d7.below _)))))
  obtain ⟨S, hS⟩ : ∃ S, S = sealed lb [q] := ⟨_, rfl⟩
  have HS : Hid (S.length = 32) := by rw [hS]; exact sealed_len [q] HLB.out
  have HSi : Hid (sealed S [q] = S) := by rw [hS]; exact sealed_idem [q] HLB.out
  have HSt := fun (i : Nat) (hi : i < q.length) => seal_turn (b := lb) (p := q) (i := i) (c := c) HLB.out HB.out.byt.bytes HQ.out.byt.bytes hi hc
  rw [← hS] at HSt O6
  have HST := Lib.hid HSt
  have B7 := O6.up c67
  have Q7 := Q6.up c67
  have c7 := belT c6 c67
  have hs7 : w.heap.size < w7.heap.size := B7.lt _ rfl
  clear hS HSt O6 Q6 c6 c67 g6 d7 HB HWa k6 hB5 HQ c5
  go_wp2_with fail
  refine Calls.mono (copy_any _ S _ B7.byt (by rw [HS.out]; decide)) ?_
  rintro e w8 ⟨v8, rfl, O8, b8⟩
  obtain ⟨ao8, cap8, e8, _, _⟩ := O8.byt.shape
  rw [HS.out] at e8
  subst e8
  go_wp2_with fail
  refine Calls.mono (copy_any _ q _ (Q7.byt.up b8) (by have := HQL.out; omega)) ?_
  rintro e w9 ⟨v9, rfl, O9, b9⟩
  obtain ⟨g9, cap9, e9, h91, h92, h93, h94⟩ := O9.shape (by have := HQL.out; omega)
  rw [HQL.out] at e9
  subst e9
  go_wp2_with fail
  refine Calls.mono (within_any at' n _ (by omega) h2.1 h2.2) ?_
  have hw1 := withinI_ge at' n
  have hw2 := withinI_lt at' n (by omega)
  obtain ⟨k, hk⟩ := Int.eq_ofNat_of_zero_le hw1
  rw [hk] at hw1 hw2 ⊢
  have hkl : k < n := by omega
  clear hk hw1 hw2
  rintro e wx ⟨rfl, rfl⟩
  have hkq : k < q.length := by have := HQL.out; omega
  obtain ⟨x, hx⟩ : ∃ x, x = q[k] := ⟨_, rfl⟩
  have hqk : q[k]? = some x := by rw [hx]; exact List.getElem?_eq_getElem hkq
  obtain ⟨hx8, hxc, hxf⟩ := O9.cells hqk
  have hxx := bx8 hx8 hc
  have hxc8 := G.xor8 hx8 hc
  obtain ⟨OT, gT⟩ := O9.store k (x ^^^ c) hxc8
  have bT : Below w8.heap.size w8 (w9.setCell ⟨g9, k, none⟩ (.int .u8 ((x ^^^ c : Nat) : Int))) := b9.grown gT b9.size (fun g hg => by cases hg; exact h91)
  have HT := HST.out k hkq
  rw [← hx] at HT
  have HT := Lib.hid HT
  have HOT := Lib.hid OT
  have HbT := Lib.hid bT
  clear hx hqk OT bT gT O9 hkq HST
  go_wp2_with fail
  refine Calls.mono (copy_any _ S _ (B7.byt.up (belT b8 HbT.out)) (by rw [HS.out]; decide)) ?_
  rintro e wd ⟨vd, rfl, Od, bd⟩
  obtain ⟨aod, capd, ed, _, _⟩ := Od.byt.shape
  rw [HS.out] at ed
  subst ed
  have c8d : Below w8.heap.size w8 wd := belT HbT.out bd
  have c7d : Below w7.heap.size w7 wd := belT b8 c8d
  have hsd : w8.heap.size ≤ (w9.setCell ⟨g9, k, none⟩ (.int .u8 ((x ^^^ c : Nat) : Int))).heap.size := HbT.out.size
  go_wp2_with fail
  have OT10 := HOT.out.up bd
  refine Calls.mono (seal_yes _ _ S [q] _ w7.heap.size ((O8.up c8d).up (belA1 (belR _))) HS.out (Parts.lit1 (by simp) (Q7.byt.up c7d)) (by simp)) ?_
  rw [HSi.out]
  rintro e w11 ⟨rfl, O11, g11⟩
  have c11 : Below w7.heap.size w7 w11 := belG (belA1 c7d) g11 (fun g hg => O11.ge g hg)
  have hlt8 := O8.lt
  have OT11 := (OT10.up (belA1 (belR wd))).apart g11 hlt8
  have hd1 : w8.heap.size ≤ wd.heap.size := c8d.size
  have Od11 := (Od.up (belA1 (belR wd))).apart g11 (fun g hg => Nat.lt_of_lt_of_le (hlt8 g hg) hsd)
  clear OT10 g11 O8
  go_wp2_with fail
  refine Calls.mono (same_any _ _ S S _ O11.byt (B7.byt.up c11)) ?_
  rw [decide_eq_true rfl]
  rintro e w12 ⟨rfl, d12⟩
  have b12 : Below w11.heap.size w11 w12 := d12.below _
  have c12 : Below w7.heap.size w7 w12 := belT c11 b12
  go_wp2_with fail
  refine Calls.mono (seal_yes _ _ S [q.set k (x ^^^ c)] _ _ ((Od11.up b12).up (belA1 (belR _))) HS.out (Parts.lit1 (by simp) (OT11.byt.up b12)) (by simp)) ?_
  rintro e w13 ⟨rfl, O13, g13⟩
  have c13 : Below w7.heap.size w7 w13 := belG (belA1 c12) g13 (fun g hg => by have := O13.ge g hg; have := b8.size; omega)
  go_wp2_with fail
  refine Calls.mono (same_any _ _ _ S _ O13.byt (B7.byt.up c13)) ?_
  rw [HT.out]
  rintro e w14 ⟨rfl, d14⟩
  have c14 : Below w7.heap.size w7 w14 := belT c13 (d14.below _)
  have B31 : Byt w14 (.slice (some ⟨w.heap.size, 0, none⟩) 31 32) (S.take 31) := (B7.byt.up c14).takeI (by decide)
  clear c13 O13 g13 d14 c12 b12 d12 O11 c11 Od11 OT11
  go_wp2_with fail
  refine Calls.mono (seal_no _ _ _ _ (B31.up (belA1 (belR _))) (by rw [List.length_take]; have := HS.out; omega)) ?_
  rintro e wx ⟨rfl, rfl⟩
  go_wp2_with fail
  refine Calls.mono (copy_any _ S _ (B7.byt.up (belA1 c14)) (by rw [HS.out]; decide)) ?_
  rintro e w15 ⟨v15, rfl, O15, b15⟩
  have c15 : Below w7.heap.size w7 w15 := belT (belA1 c14) b15
  obtain ⟨ao15, cap15, e15, _, _⟩ := O15.byt.shape
  rw [HS.out] at e15
  subst e15
  have hb15 := b15.size
  go_wp2_with (first
    | (at_builtin; go_loud (refine wpList_unguard (by rfl) ?_); go_loud (refine wpList_append_bytes rfl _ _ 23 rfl j0 Try.underlying23 hj hy0 hy1 hy2 _ _ _ rfl (O15.up (belA1 (belR _))) _ _ rfl (Byt.lit1 _ 0 _ (by simp) (by decide)) (by simp only [List.length_singleton]; have := HS.out; omega) (by first | omega | (simp at *; omega)) ?_); intro v16 w16 O16 g16)
    | fail)
  have c16 : Below w7.heap.size w7 w16 := belG (belA1 c15) g16 (fun g hg => by have h1 := O15.ge g hg; have h2 := (belA1 (o1 := .cells #[] 0) c14).size; have h3 := c14.size; simp at h1; omega)
  refine Calls.mono (seal_no _ _ _ _ O16.byt (by rw [List.length_append]; have := HS.out; simp; omega)) ?_
  rintro e wx ⟨rfl, rfl⟩
  go_wp2_with fail
  refine Calls.mono (wakes1_any _) ?_
  rintro e w17 ⟨rfl, b17⟩
  go_wp2_with fail
  go_ret
  exact ⟨rfl, belT c7 (belT c16 b17)⟩
theorem crcSeals_law (W : World) (va : Value) (a : List Nat) (ha : Byt W va a) (_ : a.length ≤ 140737488351232) (vb : Value) (b : List Nat) (hb : Byt W vb b) (_ : b.length ≤ 140737488351232) (at' : Int) (h2 : -9223372036854775808 ≤ at' ∧ at' ≤ 9223372036854775807) (c : Int) (hc : 0 ≤ c ∧ c ≤ 255) :
    Calls Try.prog 5 #[va, vb, .int .i64 at', .int .u8 c] W fun e W' => e = .returned (.bool true) ∧ Below W.heap.size W W' := by
  obtain ⟨m, rfl⟩ := Int.eq_ofNat_of_zero_le hc.1
  exact crcSeals_walk va vb a b at' m W ha hb (by omega) h2
end Go.Proofs.Ytghbbceephcifaa
