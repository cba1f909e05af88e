/- What stands in the slots behind a Store; the example of chapter 10; a Store without power. -/
import Derived.Test.YtenjpldinnbcbaaSlS
import Derived.Test.YtenjpldinnbcbaaSlA
import Derived.Test.YtenjpldinnbcbaaSlG
import Derived.Test.YtenjpldinnbcbaaWk19
import Derived.Test.YtenjpldinnbcbaaSeq
namespace Go.Proofs.Ytenjpldinnbcbaa
open Go.RowKit C
set_option linter.unusedVariables false
set_option linter.unusedSimpArgs false
set_option maxRecDepth 100000
set_option maxHeartbeats 1000000

theorem Sup.is_four {l : List Nat} (h : Sup.is l = true) : l[0]? = some 87 := by
  have h1 := ((Sup.is_iff l).1 h).2.2
  have h4 : (Sup.parse l).enc.take 4 = [87, 83, 85, 80] := by
    have h : (Sup.parse l).enc.take 4 = ((Sup.parse l).enc.take 28).take 4 := by rw [List.take_take]; rfl
    rw [h, Sup.enc_take]; rfl
  rw [h1] at h4
  have : (l.take 4)[0]? = some 87 := by rw [h4]; rfl
  rwa [List.getElem?_take_of_lt (by decide)] at this
theorem Sup.is_zeros : Sup.is (List.replicate 32 0) = false := by
  cases h : Sup.is (List.replicate 32 0) with
  | false => rfl
  | true => have := Sup.is_four h; simp at this
namespace B
theorem supAt_zeros {b : Bn} {i a : Nat} (h : lookB b i a = List.replicate 32 0) : supAt b i a = [] := by
  unfold supAt
  rw [h, Sup.is_zeros]
  split <;> simp at *
theorem supAt_fail {b : Bn} {i a : Nat} (h : failB b i = true) : supAt b i a = [] := by
  unfold supAt; rw [h]; rfl
theorem supAt_store {b : Bn} (h : Pw b) (lv : List Bool) {s : Sup} (hs : s.ok = true) {i c : Nat} (hi : i < b.ds.length) (hc : c < 2) (hf : failB b i = false) :
    supAt (storeB b lv (slotN s) s.enc) i c = if live1 lv i = true ∧ c = slotN s then [s] else supAt b i c := by
  have ha : slotN s < 52 := by unfold slotN; split <;> decide
  obtain ⟨_, _, _, f4, f5, _⟩ := store_spec h lv ha (x := s.enc) s.enc_len s.enc_byte
  have e1 := f4 i hi
  have e2 := f5 i hi c (by omega)
  rw [hf] at e1 e2
  unfold supAt
  by_cases hq : live1 lv i = true ∧ c = slotN s
  · rw [if_pos ⟨hq.1, rfl, hq.2⟩] at e2
    rw [e1, e2, Sup.is_enc hs, Sup.parse_enc hs, if_pos hq]; rfl
  · rw [if_neg (fun h3 => hq ⟨h3.1, h3.2.2⟩)] at e2
    rw [e1, e2, if_neg hq, hf]
theorem sups_fail {b : Bn} {i : Nat} (h : failB b i = true) : sups b i = [] := by unfold sups; rw [supAt_fail h, supAt_fail h]; rfl
theorem sups_fresh (n i : Nat) : sups (fresh n) i = [] := by
  unfold sups
  rw [supAt_zeros (fresh_look n i 0 (by decide)), supAt_zeros (fresh_look n i 1 (by decide))]; rfl
theorem best_none {b : Bn} : ∀ n, (∀ i, i < n → sups b i = []) → bestN b n = Sup.zero := by
  intro n
  induction n with
  | zero => intro _; rfl
  | succ n ih => intro h; show newer (bestN b n) (sups b n) = _; rw [h n (by omega), ih (fun i hi => h i (by omega))]; rfl
theorem fresh_failB (n i : Nat) : failB (fresh n) i = false := by unfold failB; rw [fresh_at]; rfl
end B
theorem best_no (w : World) (base g : Nat) (lv : Value) (hs : List (Nat × Value)) (b : B.Bn) (h : IsBench w base g lv hs b) (hL : B.Lv b) (hn : b.ds.length ≤ 8) (h0 : (B.bestN b b.ds.length).gen = 0) :
    Calls Try.prog 38 #[.pointer (some ⟨g, 0, none⟩)] w fun r w' => r = .returned (.tuple #[sv Sup.zero, .slice none 0 0, .int .i64 3]) ∧ Below w.heap.size w w' := by
  refine Calls.mono (best_any w base g lv hs b h hL hn) ?_
  rintro r w' ⟨h1, h2⟩
  rw [if_pos h0] at h1
  exact ⟨h1, h2⟩
theorem best_yes (w : World) (base g : Nat) (lv : Value) (hs : List (Nat × Value)) (b : B.Bn) (h : IsBench w base g lv hs b) (hL : B.Lv b) (hn : b.ds.length ≤ 8) (s : Sup) (hb : B.bestN b b.ds.length = s) (h0 : s.gen ≠ 0) :
    Calls Try.prog 38 #[.pointer (some ⟨g, 0, none⟩)] w fun r w' => ∃ v, r = .returned (.tuple #[sv s, v, .int .i64 0]) ∧ OwnT w' w.heap.size v ((List.range b.ds.length).map (fun d => B.nearB s (B.sups b d))) ∧ Below w.heap.size w w' := by
  refine Calls.mono (best_any w base g lv hs b h hL hn) ?_
  rintro r w' ⟨h1, h2⟩
  rw [hb, if_neg h0] at h1
  obtain ⟨v, e, o⟩ := h1
  exact ⟨v, e, o, h2⟩
attribute [local irreducible] Go.Calls Byt Own Parts PA BA Bools OwnD OwnT OwnS
theorem wakes10_any (w : World) : Calls Try.prog 42 #[] w fun e w' => e = .returned (.bool true) ∧ Below w.heap.size w w' := by
  go_enter Try.func42, Try.ntmps42
  go_wp2_with fail
  refine Calls.mono (bnew_any w 3 (by decide) (by decide)) ?_
  rintro r w1 ⟨rfl, ⟨lv, hs, I1⟩, b1⟩
  have HBS := best_no w1 _ _ _ _ _ I1 (B.Up.fresh 3).lv (by rw [B.fresh_len]; decide) (by rw [B.best_none _ (fun i _ => B.sups_fresh 3 i)]; rfl)
  unfold sv Sup.zero Geo.zero at HBS
  dsimp only at HBS
  have HBS := Lib.hid HBS
  clear I1
  go_wp2_with fail
  refine Calls.mono HBS.out ?_
  rintro r w2 ⟨rfl, b2⟩
  go_wp2
  go_ret
  exact ⟨rfl, belA1 (belT b1 b2)⟩
theorem store_down (w : World) (base g : Nat) (lv : Value) (hs : List (Nat × Value)) (b : B.Bn) (vv : Value) (s : Sup) (h : IsBench w base g lv hs b) (hd : b.down = true) (hb0 : base ≤ w.heap.size) (hL : Bools w vv [true]) (hk : s.ok = true) (hn : 0 < b.ds.length) (hn8 : b.ds.length ≤ 8) (hl : b.left = 0)
    (hp : ∀ d ∈ b.ds, d.p.length ≤ 1000000) (hw : 0 ≤ b.writes ∧ b.writes ≤ 1000000000) :
    Calls Try.prog 36 #[.pointer (some ⟨g, 0, none⟩), vv, sv s] w fun r w' => r = .returned (.int .i64 6) ∧ Fr (ofB g lv hs) w w' := by
  have HE := fun W => sencode_ok s W hk
  obtain ⟨ev, hev⟩ : ∃ ev, ev = s.enc := ⟨_, rfl⟩
  have ev32 : ev.length = 32 := by rw [hev]; exact s.enc_len
  have ev8 : ∀ c ∈ ev, c < 256 := by rw [hev]; exact s.enc_byte
  rw [← hev] at HE
  unfold sv at HE ⊢
  have HE := Lib.hid HE
  obtain ⟨a, ha⟩ : ∃ a, a = slotN s := ⟨_, rfl⟩
  have ha2 : a < 2 := by rw [ha]; unfold slotN; split <;> decide
  have HB := Lib.hid h
  have HA := Lib.hid ha
  have HV := Lib.hid hL
  have HEV := Lib.hid hev
  have E32 := Lib.hid ev32
  have E8 := Lib.hid ev8
  have HA2 := Lib.hid ha2
  have HLT := Lib.hid h.lts
  clear h hL hk hev ev32 ev8 ha ha2
  go_enter Try.func36, Try.ntmps36
  go_wp2_with fail
  refine Calls.mono (HE.out _) ?_
  rintro r w2 ⟨xv, rfl, O2, b2⟩
  obtain ⟨ao, cap, rfl, hc5, hc6⟩ := O2.byt.shapeN E32.out
  have hs2 : w.heap.size + 2 ≤ w2.heap.size := by have := b2.size; simp at this; omega
  have hcb : w2.cell? ⟨w.heap.size, 0, none⟩ = some (.pointer (some ⟨g, 0, none⟩)) := by
    rw [b2.cell (p := ⟨w.heap.size, 0, none⟩) (by simp; omega)]
    simp
  have hcs : w2.cell? ⟨w.heap.size + 1, 0, none⟩ = some (.int .i64 s.gen) := by
    rw [b2.cell (p := ⟨w.heap.size + 1, 0, none⟩) (by simp)]
    simp
  have HCB := Lib.hid hcb
  have B2 := belT (belA2 (belR w)) b2
  have O2 := Lib.hid O2
  clear b2 hc5 hc6
  go_upto_region 5 with (fail)
  obtain ⟨w3, hw3⟩ : ∃ w3, w3 = (w2.alloc (.cells #[.slice ao 32 cap] 48)).alloc (.cells #[.int .i64 0] 3) := ⟨_, rfl⟩
  have hs3 : w3.heap.size = w2.heap.size + 2 := by rw [hw3]; simp
  have b3 : Below w2.heap.size w2 w3 := by rw [hw3]; exact belA2 (belR _)
  have hc3 : w3.cell? ⟨w.heap.size + 1, 0, none⟩ = some (.int .i64 s.gen) := (b3.cell (p := ⟨w.heap.size + 1, 0, none⟩) (by show w.heap.size + 1 < _; omega)).trans hcs
  have hcb3 : w3.cell? ⟨w.heap.size, 0, none⟩ = some (.pointer (some ⟨g, 0, none⟩)) := (b3.cell (p := ⟨w.heap.size, 0, none⟩) (by show w.heap.size < _; omega)).trans hcb
  have hcx3 : w3.cell? ⟨w2.heap.size, 0, none⟩ = some (.slice ao 32 cap) := by
    rw [hw3]; simp
  have hca3 : w3.cell? ⟨w2.heap.size + 1, 0, none⟩ = some (.int .i64 0) := by
    rw [hw3]; simp
  have hfa3 : w3.frozen? ⟨w2.heap.size + 1, 0, none⟩ = false := by
    rw [hw3]; simp
  rw [← hw3]
  have B3 := belT B2 b3
  have O3 := Lib.hid (O2.out.up b3)
  clear hw3 hcs hcb
  go_upto_if 25 with (fail)
  go_cut [] from 25 to 25 (fun X => Hid (X.cell? ⟨w.heap.size, 0, none⟩ = some (.pointer (some ⟨g, 0, none⟩)) ∧ X.cell? ⟨w2.heap.size, 0, none⟩ = some (.slice ao 32 cap) ∧ X.cell? ⟨w2.heap.size + 1, 0, none⟩ = some (.int .i64 (a : Int)) ∧ Fr (fun y => y = w2.heap.size + 1) w3 X))
  case first =>
    by_cases hp2 : s.gen.tmod 2 = 1
    · have hq : (s.gen.tmod 2 == 1) = true := by simp [hp2]
      have HR : Hid ((w3.setCell ⟨w2.heap.size + 1, 0, none⟩ (.int .i64 1)).cell? ⟨w.heap.size, 0, none⟩ = some (.pointer (some ⟨g, 0, none⟩)) ∧ (w3.setCell ⟨w2.heap.size + 1, 0, none⟩ (.int .i64 1)).cell? ⟨w2.heap.size, 0, none⟩ = some (.slice ao 32 cap) ∧ (w3.setCell ⟨w2.heap.size + 1, 0, none⟩ (.int .i64 1)).cell? ⟨w2.heap.size + 1, 0, none⟩ = some (.int .i64 (a : Int)) ∧ Fr (fun y => y = w2.heap.size + 1) w3 (w3.setCell ⟨w2.heap.size + 1, 0, none⟩ (.int .i64 1))) := by
        refine Lib.hid ⟨?_, ?_, ?_, (Fr.cell ⟨w2.heap.size + 1, 0, none⟩ _).mono (fun _ h => h)⟩
        · exact (World.cell?_setCell_other _ _ _ _ (by intro e; have := congrArg Addr.block e; simp at this; omega)).trans hcb3
        · exact (World.cell?_setCell_other _ _ _ _ (by intro e; have := congrArg Addr.block e; simp at this)).trans hcx3
        · rw [World.cell?_setCell_same _ _ _ hca3, HA.out]
          unfold slotN
          rw [if_pos hp2]; rfl
      clear hp2
      go_wp2_with fail
      go_meet
      case rel => exact HR
    · have hq : (s.gen.tmod 2 == 1) = false := by simp [hp2]
      have HR : Hid (w3.cell? ⟨w.heap.size, 0, none⟩ = some (.pointer (some ⟨g, 0, none⟩)) ∧ w3.cell? ⟨w2.heap.size, 0, none⟩ = some (.slice ao 32 cap) ∧ w3.cell? ⟨w2.heap.size + 1, 0, none⟩ = some (.int .i64 (a : Int)) ∧ Fr (fun y => y = w2.heap.size + 1) w3 w3) := by
        refine Lib.hid ⟨hcb3, hcx3, ?_, Fr.refl _ _⟩
        rw [hca3, HA.out]
        unfold slotN
        rw [if_neg hp2]; rfl
      clear hp2
      go_wp2_with fail
      go_meet
      case rel => exact HR
  obtain ⟨k1, k2, k3, k4⟩ := hcut.out
  have O5 := Lib.hid (O3.out.byt.fr k4 (fun y hy e => by have := O3.out.lt y hy; have h2 := O2.out.lt y hy; omega))
  have hs5 : w3.heap.size ≤ wc.heap.size := k4.size
  obtain ⟨w4, hw4⟩ : ∃ w4, w4 = wc.alloc (.cells #[.func (Fn.func 76) #[] #[.pointer (some ⟨w.heap.size, 0, none⟩), .pointer (some ⟨w2.heap.size + 1, 0, none⟩), .pointer (some ⟨w2.heap.size, 0, none⟩)], .func (Fn.func 58) #[.pointer (some ⟨g, 0, none⟩)] #[]] 46) := ⟨_, rfl⟩
  have HW4 := Lib.hid hw4
  have hs4 : w4.heap.size = wc.heap.size + 1 := by rw [hw4]; simp
  have b4 : Below wc.heap.size wc w4 := by rw [hw4]; exact belA1 (belR _)
  have CB : Hid (∀ X, Fr (ofB g lv hs) w4 X → X.cell? ⟨w.heap.size, 0, none⟩ = some (.pointer (some ⟨g, 0, none⟩)) ∧ X.cell? ⟨w2.heap.size, 0, none⟩ = some (.slice ao 32 cap) ∧ X.cell? ⟨w2.heap.size + 1, 0, none⟩ = some (.int .i64 (a : Int)) ∧ X.cell? ⟨wc.heap.size, 0, none⟩ = some (.func (Fn.func 76) #[] #[.pointer (some ⟨w.heap.size, 0, none⟩), .pointer (some ⟨w2.heap.size + 1, 0, none⟩), .pointer (some ⟨w2.heap.size, 0, none⟩)]) ∧ X.cell? ⟨wc.heap.size, 1, none⟩ = some (.func (Fn.func 58) #[.pointer (some ⟨g, 0, none⟩)] #[]) ∧ Byt X (.slice ao 32 cap) ev) := by
    show ∀ X, _
    intro X hX
    have no : ∀ y, w.heap.size ≤ y → ¬ ofB g lv hs y := fun y hy h => by have := HLT.out y h; omega
    have kc : ∀ (y o : Nat), w.heap.size ≤ y → y < w4.heap.size → X.cell? ⟨y, o, none⟩ = w4.cell? ⟨y, o, none⟩ := fun y o h1 h2 => World.cell?_of_block (hX.block y h2 (no y h1))
    refine ⟨?_, ?_, ?_, ?_, ?_, ?_⟩
    · rw [kc _ _ (by omega) (by omega), b4.cell (p := ⟨w.heap.size, 0, none⟩) (by show w.heap.size < _; omega)]; exact k1
    · rw [kc _ _ (by omega) (by omega), b4.cell (p := ⟨w2.heap.size, 0, none⟩) (by show w2.heap.size < _; omega)]; exact k2
    · rw [kc _ _ (by omega) (by omega), b4.cell (p := ⟨w2.heap.size + 1, 0, none⟩) (by show w2.heap.size + 1 < _; omega)]; exact k3
    · rw [kc _ _ (by omega) (by omega), hw4]; simp
    · rw [kc _ _ (by omega) (by omega), hw4]; simp
    · exact (O5.out.up b4).fr hX (fun y hy => no y (by have := O2.out.ge y hy; simp at this; omega))
  have BW4 : Hid (Below w.heap.size w w4) := Lib.hid (belT (Fr.below B3 k4 (by omega) (fun y e => by show w.heap.size ≤ y; rw [e]; omega)) b4)
  have S0 : Hid (SX w4 base g lv hs w4 b) := ⟨hs, HB.out.up BW4.out, Fr.refl _ _, fun y hy => .inl hy⟩
  have V4 := Lib.hid (HV.out.up BW4.out)
  have XGE : Hid (∀ y, (Value.slice ao 32 cap).ownBlock = some y → w.heap.size ≤ y ∧ y < w4.heap.size) := Lib.hid (fun y hy => ⟨by have := O2.out.ge y hy; simp at this; omega, by have := O2.out.lt y hy; omega⟩)
  obtain ⟨N, hN⟩ : ∃ N, N = b.ds.length := ⟨_, rfl⟩
  have HN := Lib.hid hN
  have hn8' : N ≤ 8 := by omega
  have hN0 : 0 < N := by omega
  have FW : Hid (Fr (ofB g lv hs) w w4) := Lib.hid (Fr.of_below BW4.out)
  obtain ⟨c1, c2, c3, c4, c5, c6⟩ := CB.out w4 (Fr.refl _ _)
  have HLN := blen_any _ _ _ _ _ _ (HB.out.up BW4.out)
  rw [← HN.out] at HLN
  have HLN := Lib.hid HLN
  have HIS := Lib.hid (slis_any vv [true] 0 w4 V4.out (by decide))
  have hwe : B.writeE b ((0 : Nat) : Int) (a : Int) ev = 6 := by
    unfold B.writeE
    rw [B.may_down hd hn, if_pos (by decide)]
  have HCL := clo_any w4 base g lv hs b 0 a w.heap.size (w2.heap.size + 1) w2.heap.size _ ev (HB.out.up BW4.out) c6 (fun y hy h => by have := XGE.out y hy; have := HLT.out y h; omega) (by have := BW4.out.size; omega) (fun dk hd => by have := hp dk hd; omega) (by omega) (by omega) c1 c3 c2
  rw [hwe] at HCL
  have HCL2 : Hid (Calls Try.prog 76 #[.int .i64 ((0 : Nat) : Int), .pointer (some ⟨w.heap.size, 0, none⟩), .pointer (some ⟨w2.heap.size + 1, 0, none⟩), .pointer (some ⟨w2.heap.size, 0, none⟩)] w4 fun e w' => e = .returned (.int .i64 6) ∧ Fr (ofB g lv hs) w w') := by
    refine Calls.mono HCL ?_
    rintro e w' ⟨rfl, hs7, I7, F7, q7⟩
    exact ⟨rfl, FW.out.trans F7⟩
  have hfn := call_clo
  have hNI : (0 : Int) < (N : Int) := by omega
  clear hw4 hN HCL hwe c2 c3 c5 c6
  go_wp2_with fail
  rw [← HW4.out]
  clear k1 k2 k3 k4 hcb3 hcx3 hca3 hfa3 hc3
  go_loopw [31] (fun jv X => jv = .int .i64 0 ∧ w4 = X) (fun jv _ => 2 - (intOf jv).toNat)
  case atStart => exact ⟨rfl, rfl⟩
  case round =>
    obtain ⟨rfl, rfl⟩ := hrel
    go_wp2_with fail
    refine Calls.mono HLN.out ?_
    rintro r w5 ⟨rfl, rfl⟩
    go_wp2
    go_loopw [37] (fun kv Y => kv = .int .i64 0 ∧ w4 = Y) (fun kv _ => N - (intOf kv).toNat)
    case atStart => exact ⟨rfl, rfl⟩
    case round =>
      obtain ⟨rfl, rfl⟩ := hrel
      go_wp2_with fail
      refine Calls.mono HIS.out ?_
      rintro r w6 ⟨rfl, rfl⟩
      have hl1 : B.live1 [true] 0 = true := rfl
      rw [hl1]
      go_wp2_with fail
      refine Calls.mono HCL2.out ?_
      rintro r w7 ⟨rfl, F7⟩
      go_wp2
      go_ret
      exact ⟨rfl, F7⟩
end Go.Proofs.Ytenjpldinnbcbaa
