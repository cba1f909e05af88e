/- The law BenchCrash: what survives is told by the disks' order, then by that of the writes. -/
import Derived.Test.YtggljcdkiaggeaaCrp
import Derived.Test.YtggljcdkiaggeaaBenchReplace
namespace Go.Proofs.Ytggljcdkiaggeaa
open Go.RowKit
set_option linter.unusedVariables false
set_option linter.unusedSimpArgs false
set_option maxRecDepth 100000
set_option maxHeartbeats 2000000
def n64 (a : Nat) : Value := .int .i64 (a : Int)
/-- three rows of numbers 0, 1, .. in an array -/
structure PA (w : World) (B0 gp : Nat) (vs : Nat → Value) (c : Nat → Nat) : Prop where
  rng : w.rangeAt gp 0 [vs 0, vs 1, vs 2]
  thr : w.there gp 0 3
  row : ∀ j, j < 3 → w.ownsRow B0 3 1 (vs j) (c j) ((List.range (c j)).map n64)
  ap : ∀ j k, j < 3 → k < 3 → j ≠ k → ∀ x, (vs j).ownBlock = some x → (vs k).ownBlock ≠ some x
  ag : ∀ j, j < 3 → (vs j).ownBlock ≠ some gp
  lt : gp < w.heap.size
  ge : B0 ≤ gp
def ofP (gp : Nat) (vs : Nat → Value) (x : Nat) : Prop := x = gp ∨ ∃ j, j < 3 ∧ (vs j).ownBlock = some x
theorem PA.fr {S : Nat → Prop} {w w' : World} {B0 gp : Nat} {vs : Nat → Value} {c : Nat → Nat} (h : PA w B0 gp vs c) (k : Fr S w w') (hS : ∀ x, ofP gp vs x → ¬ S x) : PA w' B0 gp vs c :=
  ⟨rangeAt_fr h.rng k (hS gp (.inl rfl)), there_fr h.thr k (hS gp (.inl rfl)), fun j hj => row_fr (h.row j hj) k (fun x hx => hS x (.inr ⟨j, hj, hx⟩)), h.ap, h.ag, Nat.lt_of_lt_of_le h.lt k.size, h.ge⟩
theorem PA.up {w w' : World} {B0 gp : Nat} {vs : Nat → Value} {c : Nat → Nat} (h : PA w B0 gp vs c) (k : Below w.heap.size w w') : PA w' B0 gp vs c := h.fr (S := fun _ => False) (Fr.of_below k) (fun _ _ => id)
theorem three {P : Nat → Prop} {d : Nat} (hd : d < 3) (h0 : P 0) (h1 : P 1) (h2 : P 2) : P d := by
  have : d = 0 ∨ d = 1 ∨ d = 2 := by omega
  rcases this with rfl | rfl | rfl <;> assumption
theorem PA.cell {w : World} {B0 gp : Nat} {vs : Nat → Value} {c : Nat → Nat} (h : PA w B0 gp vs c) {j : Nat} (hj : j < 3) : w.cell? ⟨gp, j, none⟩ = some (vs j) := by
  have h0 := h.rng 0 (vs 0) rfl
  have h1 := h.rng 1 (vs 1) rfl
  have h2 := h.rng 2 (vs 2) rfl
  rw [Nat.zero_add] at h0 h1 h2
  exact three (P := fun j => w.cell? ⟨gp, j, none⟩ = some (vs j)) hj h0 h1 h2
theorem PA.lts {w : World} {B0 gp : Nat} {vs : Nat → Value} {c : Nat → Nat} (h : PA w B0 gp vs c) : ∀ x, ofP gp vs x → x < w.heap.size := fun x hx => by
  rcases hx with rfl | ⟨j, hj, hx⟩
  · exact h.lt
  · exact ((h.row j hj).lt x hx).2
theorem PA.ges {w : World} {B0 gp : Nat} {vs : Nat → Value} {c : Nat → Nat} (h : PA w B0 gp vs c) : ∀ x, ofP gp vs x → B0 ≤ x := fun x hx => by
  rcases hx with rfl | ⟨j, hj, hx⟩
  · exact h.ge
  · exact ((h.row j hj).lt x hx).1
def setV (vs : Nat → Value) (d : Nat) (v : Value) (j : Nat) : Value := if j = d then v else vs j
/-- a number more in a row -/
theorem PA.push {w W2 w2 : World} {B0 gp d : Nat} {vs : Nat → Value} {v' : Value} {c : Nat → Nat} (h : PA w B0 gp vs c) (hd : d < 3) (hb : Below w.heap.size w W2) (hg : W2.grownBy w2 (vs d).ownBlock) (ho : w2.ownsRow B0 3 1 v' (c d + 1) ((List.range (c d)).map n64 ++ [n64 (c d)])) (hp : ∀ x, v'.ownBlock = some x → (vs d).ownBlock = some x ∨ W2.heap.size ≤ x) :
    PA (w2.setCell ⟨gp, d, none⟩ v') B0 gp (setV vs d v') (B.upd c d) ∧ ∀ x, ofP gp (setV vs d v') x → ofP gp vs x ∨ w.heap.size ≤ x := by
  have hF : Fr (fun x => (vs d).ownBlock = some x) w w2 := (Fr.of_below hb).trans (Fr.grown hg)
  have hFc : Fr (fun x => x = gp) w2 (w2.setCell ⟨gp, d, none⟩ v') := Fr.cell ⟨gp, d, none⟩ v'
  have hold : ∀ x, v'.ownBlock = some x → (vs d).ownBlock = some x ∨ w.heap.size ≤ x := fun x hx => by
    rcases hp x hx with h1 | h1
    · exact .inl h1
    · exact .inr (Nat.le_trans hb.size h1)
  have hvg : v'.ownBlock ≠ some gp := fun e => by
    rcases hold gp e with h1 | h1
    · exact h.ag d hd h1
    · have := h.lt; omega
  refine ⟨⟨?_, World.there_setCells (there_fr h.thr hF (h.ag d hd)) gp d [v'], fun j hj => ?_, fun j k hj hk hjk x hx hx2 => ?_, fun j hj => ?_, Nat.lt_of_lt_of_le h.lt (Nat.le_trans hF.size hFc.size), h.ge⟩, fun x hx => ?_⟩
  · have hr := rangeAt_setCell (v := v') (rangeAt_fr h.rng hF (h.ag d hd)) (o := d) hd
    have e : [vs 0, vs 1, vs 2].set d v' = [setV vs d v' 0, setV vs d v' 1, setV vs d v' 2] := by
      exact three (P := fun d => [vs 0, vs 1, vs 2].set d v' = [setV vs d v' 0, setV vs d v' 1, setV vs d v' 2]) hd rfl rfl rfl
    rw [e] at hr
    exact hr
  · by_cases e : j = d
    · subst e
      have e1 : setV vs j v' j = v' := if_pos rfl
      have e2 : B.upd c j j = c j + 1 := if_pos rfl
      rw [e1, e2, List.range_succ, List.map_append]
      exact row_fr ho hFc (fun x hx e3 => hvg (by rw [hx, e3]))
    · have e1 : setV vs d v' j = vs j := if_neg e
      have e2 : B.upd c d j = c j := if_neg e
      rw [e1, e2]
      exact row_fr (row_fr (h.row j hj) hF (fun x hx => fun h2 => h.ap d j hd hj (fun e3 => e e3.symm) x h2 hx)) hFc (fun x hx e3 => h.ag j hj (by rw [hx, e3]))
  · have hjx : j = d ∨ j ≠ d := Classical.em _
    rcases hjx with e | e
    · have e1 : setV vs d v' j = v' := if_pos e
      have e2 : setV vs d v' k = vs k := if_neg (fun e3 => hjk (e.trans e3.symm))
      rw [e1] at hx
      rw [e2] at hx2
      rcases hold x hx with h1 | h1
      · exact h.ap d k hd hk (fun e3 => hjk (e.trans e3)) x h1 hx2
      · have := ((h.row k hk).lt x hx2).2
        omega
    · have e1 : setV vs d v' j = vs j := if_neg e
      rw [e1] at hx
      by_cases e4 : k = d
      · have e2 : setV vs d v' k = v' := if_pos e4
        rw [e2] at hx2
        rcases hold x hx2 with h1 | h1
        · exact h.ap j d hj hd e x hx h1
        · have := ((h.row j hj).lt x hx).2
          omega
      · have e2 : setV vs d v' k = vs k := if_neg e4
        rw [e2] at hx2
        exact h.ap j k hj hk hjk x hx hx2
  · by_cases e : j = d
    · rw [show setV vs d v' j = v' from if_pos e]; exact hvg
    · rw [show setV vs d v' j = vs j from if_neg e]; exact h.ag j hj
  · rcases hx with hx | ⟨j, hj, hx⟩
    · exact .inl (.inl hx)
    · by_cases e : j = d
      · rw [show setV vs d v' j = v' from if_pos e] at hx
        rcases hold x hx with h1 | h1
        · exact .inl (.inr ⟨d, hd, h1⟩)
        · exact .inr h1
      · rw [show setV vs d v' j = vs j from if_neg e] at hx
        exact .inl (.inr ⟨j, hj, hx⟩)
theorem arr_info : (Try.prog.info? 60).map (fun i => (i.zero, i.size)) = some (some (.agg #[.slice none 0 0, .slice none 0 0, .slice none 0 0]), 3) := by kernel_rfl
theorem int_info : (Try.prog.info? 3).map (fun i => (i.zero, i.size, i.bytes)) = some (some (.int .i64 0), 1, 8) := by kernel_rfl
theorem PA.start (w : World) (B0 : Nat) (hb : B0 ≤ w.heap.size) : PA (w.alloc (.cells #[.slice none 0 0, .slice none 0 0, .slice none 0 0] 60)) B0 w.heap.size (fun _ => .slice none 0 0) (fun _ => 0) := by
  have hx := Box.new w [.slice none 0 0, .slice none 0 0, .slice none 0 0] 60
  exact ⟨hx.range, hx.there, fun j hj => World.ownsRow_nil _ _ _ _, (fun j k _ _ _ x hx => by cases hx), (fun j _ h => by cases h), by simp, hb⟩
def xC (d a : Nat) : List Nat := secL (10 * (d : Int) + (a : Int) + 1)
theorem xC_ok (d a : Nat) : (xC d a).length = 32 ∧ ∀ y ∈ xC d a, y < 256 := ⟨secL_len _, secL_byte _⟩
def tot (c : Nat → Nat) : Nat → Nat
  | 0 => 0
  | 1 => c 0
  | 2 => c 0 + c 1
  | _ => c 0 + c 1 + c 2
theorem tot_succ (c : Nat → Nat) {j : Nat} (hj : j < 3) : tot c (j + 1) = tot c j + c j := by
  exact three (P := fun j => tot c (j + 1) = tot c j + c j) hj (by simp [tot]) rfl rfl
theorem tot_ahead (c : Nat → Nat) {j : Nat} (hj : j < 3) : B.ahead c j = tot c j := three (P := fun j => B.ahead c j = tot c j) hj rfl rfl rfl
theorem le_sum (c : Nat → Nat) {d : Nat} (hd : d < 3) : c d ≤ c 0 + c 1 + c 2 := three (P := fun d => c d ≤ c 0 + c 1 + c 2) hd (by omega) (by omega) (by omega)
/-- the state of the loop of writes -/
def CrS (W : World) (gp : Nat) (lv : Value) (n : Nat) (w' : World) : Prop := ∃ c vs hs', c 0 + c 1 + c 2 = n ∧ PA w' W.heap.size gp vs c ∧ IsBench w' W.heap.size W.heap.size lv hs' (B.cb xC c) ∧ (∀ x, ofP gp vs x → ¬ ofB W.heap.size lv hs' x) ∧ Below W.heap.size W w'
attribute [local irreducible] Go.Calls Byt Own Parts Ints Bools
theorem benchCrash_law (W : World) (av : Value) (l : List Int) (ha : Ints W av l) (hal : l.length * 8 ≤ 140737488351232) (kv : Value) (ks : List Bool) (hks : Bools W kv ks) :
    Calls Try.prog 9 #[av, kv] W fun e W' => e = .returned (.bool true) ∧ Below W.heap.size W W' := by
  obtain ⟨j0, hj, hy0, hy1, hy2⟩ := info_parts uint8_info
  obtain ⟨ji, hji, hi0, hi1, hi2⟩ := info_parts int_info
  have hz60 := (zero_of_info arr_info).1
  have HAS := Lib.hid ha
  have HKS := Lib.hid hks
  obtain ⟨aoa, capa, rfl, hr1, hr2⟩ := Ints.sh ha
  obtain ⟨aok, capk, rfl, hr3, hr4⟩ := Bools.shape hks
  clear ha hks
  go_enter Try.func9, Try.ntmps9
  go_wp2_with fail
  refine Calls.mono (bnew_any W 3 (by decide) (by decide)) ?_
  rintro e w1 ⟨rfl, ⟨lv, hs, H1⟩, b1⟩
  rw [show B.fresh 3 = B.cb xC (fun _ => 0) from rfl] at H1
  have HR0 : Hid (CrS W w1.heap.size lv 0 (w1.alloc (.cells #[.slice none 0 0, .slice none 0 0, .slice none 0 0] 60))) :=
    ⟨fun _ => 0, fun _ => .slice none 0 0, hs, rfl, PA.start w1 W.heap.size b1.size, H1.up (belA1 (belR _)), (fun x hx ho => by rcases hx with rfl | ⟨j, hj, hx⟩; (have := H1.lts _ ho; omega); cases hx), belA1 b1⟩
  clear H1 b1
  go_wp2_with fail
  clear hz60
  go_loopw [8] (fun i w' => ∃ k : Nat, k ≤ 20 ∧ k ≤ l.length ∧ i = .int .i64 k ∧ Hid (CrS W w1.heap.size lv k w')) (fun i _ => 20 - (intOf i).toNat)
  case atStart => exact ⟨0, by omega, by omega, rfl, HR0⟩
  case round =>
    clear HR0
    obtain ⟨k, hk20, hkl, rfl, HR⟩ := hrel
    obtain ⟨c, vs, hs', hsum, P3, H3, A3, B3⟩ := HR.out
    have HSUM := Lib.hid hsum
    clear HR
    by_cases hlt : k < l.length ∧ k < 20
    · obtain ⟨hlt1, hlt2⟩ := hlt
      obtain ⟨bA, offA, z, rfl, hz, hzb, hzl⟩ := Ints.getE (Ints.up HAS.out B3) hlt1
      clear hzl hsum
      go_wp2_with fail
      refine Calls.mono (within_any z 3 _ (by decide) hzb.1 hzb.2) ?_
      rintro e w2 ⟨rfl, rfl⟩
      have hD0 := withinI_ge z 3
      have hD1 := withinI_lt z 3 (by decide)
      obtain ⟨D0, hDD⟩ : ∃ D0, D0 = withinI z 3 := ⟨_, rfl⟩
      rw [← hDD] at hD0 hD1 ⊢
      clear hDD
      obtain ⟨dn, rfl⟩ := Int.eq_ofNat_of_zero_le hD0
      have hdn : dn < 3 := by omega
      obtain ⟨aod, capd, hvd⟩ := row_shape (P3.row dn hdn)
      have hcell := P3.cell hdn
      rw [hvd] at hcell
      have hcd : c dn ≤ 20 := by have := le_sum c hdn; have := HSUM.out; omega
      have HVD := Lib.hid hvd
      clear hvd
      obtain ⟨q, hq⟩ : ∃ q, q = c dn := ⟨_, rfl⟩
      have HQ := Lib.hid hq
      rw [← hq] at hcell hcd
      clear hq
      go_wp2_with fail
      have hstp := B.cb_step xC (fun d i => secL_len _) c hdn (by rw [← HQ.out]; omega)
      rw [← HQ.out] at hstp
      have HSTP := Lib.hid hstp
      have HSZ : Hid (∀ dk ∈ (B.cb xC c).ds, (dk.p.length + 1) * 40 ≤ 140737488355328) := fun dk hdk => by
        obtain ⟨jj, hjl, hjj⟩ := List.getElem_of_mem hdk
        have h4 : jj < 3 := hjl
        have h5 := B.cb_get xC c h4
        rw [List.getElem?_eq_getElem hjl, hjj] at h5
        cases h5
        rw [B.cd_len]
        have := le_sum c h4
        have := HSUM.out
        omega
      have HWL : Hid ((-4611686018427387904 < (B.cb xC c).writes ∧ (B.cb xC c).writes < 4611686018427387904) ∧ -4611686018427387904 < (B.cb xC c).left ∧ (B.cb xC c).left ≤ 9223372036854775807) := by
        show (-4611686018427387904 < ((c 0 + c 1 + c 2 : Nat) : Int) ∧ ((c 0 + c 1 + c 2 : Nat) : Int) < 4611686018427387904) ∧ -4611686018427387904 < (-1 : Int) ∧ (-1 : Int) ≤ 9223372036854775807
        have := HSUM.out
        omega
      clear hstp
      refine Calls.mono (sector_any _ wr (by omega)) ?_
      rw [show secL (10 * (dn : Int) + (q : Int) + 1) = xC dn q from rfl]
      rintro e w4 ⟨v4, rfl, O4, b4⟩
      go_wp2_with fail
      refine Calls.mono (bwrite_any w4 _ _ _ _ _ _ _ v4 _ (H3.up b4) O4.byt (apart_own H3 O4 (Nat.le_refl _)) (Nat.le_trans B3.size b4.size) HSZ.out HWL.out.1 HWL.out.2) ?_
      rw [HSTP.out.1, HSTP.out.2]
      rintro e w5 ⟨rfl, hs5, H5, F5, q5⟩
      have B5 := Fr.below (belT B3 b4) F5 (Nat.le_trans B3.size b4.size) (fun y hy => (H3.up b4).ges y hy)
      have P5 := (P3.up b4).fr F5 A3
      have A5 : ∀ x, ofP w1.heap.size vs x → ¬ ofB W.heap.size lv hs5 x := fun x hx ho => by
        rcases q5 x ho with h9 | h9
        · exact A3 x hx h9
        · have := (P3.up b4).lts x hx
          omega
      have hcell5 := P5.cell hdn
      rw [HVD.out, ← HQ.out] at hcell5
      have hd0I : (0 : Int) ≤ (dn : Int) := by omega
      have hd1I : (dn : Int) < 3 := by omega
      have HP5 := Lib.hid P5
      have HROW : Hid (∀ W2, Below w5.heap.size w5 W2 → W2.ownsRow W.heap.size 3 1 (.slice aod q capd) q ((List.range q).map n64)) := fun W2 hW2 => by
        have h9 := row_up (P5.row dn hdn) hW2
        rw [HVD.out, ← HQ.out] at h9
        exact h9
      have HNEW : Hid (∀ (W2 w6 : World) (v' : Value), Below w5.heap.size w5 W2 → W2.grownBy w6 (Value.slice aod q capd).ownBlock → w6.ownsRow W.heap.size 3 1 v' (q + 1) ((List.range q).map n64 ++ [n64 q]) → (∀ x, v'.ownBlock = some x → (Value.slice aod q capd).ownBlock = some x ∨ W2.heap.size ≤ x) →
          Hid (CrS W w1.heap.size lv (k + 1) (w6.setCell ⟨w1.heap.size, dn, none⟩ v')) ∧ w6.cell? ⟨w1.heap.size, dn, none⟩ = some (.slice aod q capd) ∧ w6.frozen? ⟨w1.heap.size, dn, none⟩ = false) := fun W2 w6 v' hW2 hg ho hp => by
        have hvd := HVD.out
        rw [← HQ.out] at hvd
        have hpush := HP5.out.push hdn hW2 (by rw [hvd]; exact hg) (by rw [← HQ.out]; exact ho) (by rw [hvd]; exact hp)
        have hag := HP5.out.ag dn hdn
        rw [hvd] at hag
        have hF : Fr (fun x => (Value.slice aod q capd).ownBlock = some x) w5 w6 := (Fr.of_below hW2).trans (Fr.grown hg)
        have hFc : Fr (fun x => x = w1.heap.size) w6 (w6.setCell ⟨w1.heap.size, dn, none⟩ v') := Fr.cell ⟨w1.heap.size, dn, none⟩ v'
        have hofd : ∀ x, (Value.slice aod q capd).ownBlock = some x → ofP w1.heap.size vs x := fun x hx => .inr ⟨dn, hdn, by rw [hvd]; exact hx⟩
        refine ⟨⟨B.upd c dn, setV vs dn v', hs5, ?_, hpush.1, ?_, ?_, ?_⟩, cell_fr hcell5 hF hag, there_frozen (there_fr HP5.out.thr hF hag) hdn⟩
        · rw [B.upd_sum c hdn, HSUM.out]
        · have h9 := (H5.fr hF (fun x hx hx2 => A5 x (hofd x hx2) hx)).fr hFc (fun x hx hx2 => A5 x (.inl hx2) hx)
          exact h9
        · intro x hx hx2
          rcases hpush.2 x hx with h9 | h9
          · exact A5 x h9 hx2
          · have := H5.lts x hx2
            omega
        · have h1 := Fr.below B5 hF B5.size (fun x hx => HP5.out.ges x (hofd x hx))
          exact Fr.below h1 hFc h1.size (fun x hx => by rw [hx]; exact HP5.out.ge)
      clear HVD HQ HSTP HSZ HWL H3 P3 A3 B3 F5 q5
      go_wp2_with (first
        | (at_builtin; refine wpList_plain rfl fun K hK => wp_append_pl _ _ 22 rfl W.heap.size 3 ji _ 1 8 Try.underlying22 hji hi0 hi1 hi2 rfl (by decide) (.slice aod q capd) q ((List.range q).map n64) rfl (HROW.out _ (belA1 (belR _))) ⟨w5.heap.size, 0, none⟩ 1 1 [n64 q] rfl rfl (news_at rfl rfl) (fun u hu => by rw [List.mem_singleton.1 hu]; rfl) (by simp only [maxLen]; omega) (by omega) (by have := B5.size; simp; omega) ?_; intro v' w6 ho hg hpl; obtain ⟨HCS, hc6, hz6⟩ := HNEW.out _ w6 _ (belA1 (belR _)) hg ho hpl; obtain ⟨ao6, cap6, rfl⟩ := row_shape ho; refine hK _ _ ?_)
        | fail)
      go_roundw
      case rel => exact ⟨k + 1, by omega, by omega, by go_num, HCS⟩
      case measure => simp [intOf]; omega
    · by_cases hl1 : k < l.length
      · have hl2 : ¬ k < 20 := fun h => hlt ⟨hl1, h⟩
        clear hlt
        go_wp2_with fail
        refine Calls.mono (bcrash_any wr _ _ _ _ _ _ ks H3 (Bools.up HKS.out B3) (fun hne y hy ho => by have h8 := Bools.lt HKS.out hne y hy; have h9 := H3.ges y ho; omega)) ?_
        rintro e w6 ⟨rfl, hs6, H6, F6, q6⟩
        have P6 := P3.fr F6 A3
        have B6 := Fr.below B3 F6 B3.size (fun y hy => H3.ges y hy)
        have HGET : Hid (∀ i, i < 3 → ∃ d, (B.crash (B.cb xC c) ks).ds[i]? = some d ∧ d.f = false ∧ d.p = [] ∧ ∀ a, a < c i → D.look d a = if ks[tot c i + a]? = some true then xC i a else List.replicate 32 0) := fun i hi => by
          have h9 := B.cb_crash_get xC xC_ok c (fun d hd => by have := le_sum c hd; have := HSUM.out; omega) ks hi
          rw [tot_ahead c hi] at h9
          exact h9
        have HPEND : Hid (B.pending (B.crash (B.cb xC c) ks) = 0) := B.cb_crash_pend xC c ks
        have HWR : Hid ((B.crash (B.cb xC c) ks).writes = ((tot c 3 : Nat) : Int)) := by show _ = _; rw [B.cb_crash]; rfl
        have HDN : Hid ((B.crash (B.cb xC c) ks).down = false) := by show _ = _; rw [B.cb_crash]
        have HC20 : Hid (∀ d, d < 3 → c d ≤ 20) := fun d hd => by have := le_sum c hd; have := HSUM.out; omega
        have HT60 : Hid (∀ j, j < 4 → tot c j ≤ 20) := fun j hj => by
          have h1 := HSUM.out
          have : j = 0 ∨ j = 1 ∨ j = 2 ∨ j = 3 := by omega
          rcases this with rfl | rfl | rfl | rfl <;> simp only [tot] <;> omega
        obtain ⟨bb, hbb⟩ : ∃ bb, bb = B.crash (B.cb xC c) ks := ⟨_, rfl⟩
        rw [← hbb] at H6 HGET HPEND HWR HDN
        clear hbb
        have HS0 : Hid (PA w6 W.heap.size w1.heap.size vs c ∧ IsBench w6 W.heap.size W.heap.size lv hs6 bb ∧ Below W.heap.size W w6) := ⟨P6, H6, B6⟩
        clear P6 H6 B6 F6 q6 P3 H3 A3 B3 hsum
        go_wp2_with fail
        go_loopw [11, 69] (fun kk i w' => ∃ j : Nat, j ≤ 3 ∧ i = .int .i64 j ∧ kk = .int .i64 (tot c j : Nat) ∧ Hid (PA w' W.heap.size w1.heap.size vs c ∧ IsBench w' W.heap.size W.heap.size lv hs6 bb ∧ Below W.heap.size W w')) (fun _ i _ => 3 - (intOf i).toNat)
        case atStart => exact ⟨0, by omega, rfl, rfl, HS0⟩
        case round =>
          clear HS0
          obtain ⟨j, hj3, rfl, rfl, HS⟩ := hrel
          by_cases hjl : j < 3
          · obtain ⟨P7, H7, B7⟩ := HS.out
            obtain ⟨aoj, capj, hvj⟩ := row_shape (P7.row j hjl)
            have hcj := P7.cell hjl
            rw [hvj] at hcj
            have hcj20 := HC20.out j hjl
            have htj20 := HT60.out j (by omega)
            have HTS := Lib.hid (tot_succ c hjl)
            have HROWJ : Hid (∀ W2, Below wr.heap.size wr W2 → W2.ownsRow W.heap.size 3 1 (.slice aoj (c j) capj) (c j) ((List.range (c j)).map n64)) := fun W2 hW2 => by
              have h9 := row_up (P7.row j hjl) hW2
              rw [hvj] at h9
              exact h9
            have hj0I : (0 : Int) ≤ (j : Int) := by omega
            have hj1I : (j : Int) < 3 := by omega
            have HS1 : Hid ((PA wr W.heap.size w1.heap.size vs c ∧ IsBench wr W.heap.size W.heap.size lv hs6 bb ∧ Below W.heap.size W wr) ∧ ∀ t, t < c j → ∃ b, aoj = some ⟨b, 0, none⟩ ∧ wr.cell? ⟨b, t, none⟩ = some (n64 t)) := ⟨⟨P7, H7, B7⟩, fun t ht => by
              rcases (HROWJ.out wr (belR _)).2 with ⟨e, h0⟩ | ⟨b, cap2, cur, e, _⟩
              · omega
              · cases e
                refine ⟨b, rfl, ?_⟩
                have h9 := (HROWJ.out wr (belR _)).cellAt t (by simpa using ht)
                rw [h9]
                simp [ht]⟩
            obtain ⟨cj, hcjn⟩ : ∃ cj, cj = c j := ⟨_, rfl⟩
            have HCJ := Lib.hid hcjn
            obtain ⟨tj, htjn⟩ : ∃ tj, tj = tot c j := ⟨_, rfl⟩
            have HTJ := Lib.hid htjn
            rw [← hcjn] at hcj hcj20 HS1 HTS
            rw [← htjn] at htj20 HTS ⊢
            clear P7 H7 B7 hvj hcjn htjn HROWJ HS
            go_wp2_with fail
            go_loopw [11, 76] (fun kk i w' => ∃ t : Nat, t ≤ cj ∧ i = .int .i64 t ∧ kk = .int .i64 (tj + t : Nat) ∧ Hid ((PA w' W.heap.size w1.heap.size vs c ∧ IsBench w' W.heap.size W.heap.size lv hs6 bb ∧ Below W.heap.size W w') ∧ ∀ t, t < cj → ∃ b, aoj = some ⟨b, 0, none⟩ ∧ w'.cell? ⟨b, t, none⟩ = some (n64 t))) (fun _ i _ => cj - (intOf i).toNat)
            case atStart => exact ⟨0, Nat.zero_le _, rfl, rfl, HS1⟩
            case round =>
              clear HS1
              obtain ⟨t, htc, rfl, rfl, HS⟩ := hrel
              by_cases htl : t < cj
              · obtain ⟨⟨P8, H8, B8⟩, hrowc⟩ := HS.out
                obtain ⟨bj, rfl, hct⟩ := hrowc t htl
                unfold n64 at hct
                obtain ⟨dk, hdk, hfk, hpk, hlk⟩ := HGET.out j hjl
                have hrd := B.read_ok (a := t) HDN.out hdk hfk (by omega)
                rw [hlk t (by rw [← HCJ.out]; exact htl), ← HTJ.out] at hrd
                clear hdk hfk hpk hlk hrowc
                have HKK := Lib.hid (Bools.up HKS.out B8)
                by_cases hkl2 : tj + t < ks.length
                · obtain ⟨bk, offk, xk, rfl, hxk, hxg⟩ := Bools.get HKK.out hkl2
                  have hxg2 := hxg.out
                  clear hxg
                  cases xk with
                  | true =>
                    rw [if_pos hxg2] at hrd
                    have HRD := Lib.hid hrd
                    clear hrd hxg2
                    go_wp2_with (first
                      | (at_make; refine wpList_make_bytes rfl _ _ 29 rfl j0 Try.underlying29 hj hy0 hy1 hy2 _ _ _ _ 32 rfl rfl rfl rfl (by decide) ?_; intro w9 O9 b9; have hxk9 := cell_fr hxk (Fr.of_below (S := fun _ => False) b9) id)
                      | fail)
                    refine Calls.mono (sector_any _ w9 (by omega)) ?_
                    rw [show secL (10 * (j : Int) + (t : Int) + 1) = xC j t from rfl]
                    rintro e w10 ⟨v10, rfl, OW, b10⟩
                    have c10 := belT b9 b10
                    go_wp2_with fail
                    refine Calls.mono (bread_any _ _ _ _ _ _ _ _ (H8.up c10)) ?_
                    rw [HRD.out.1, HRD.out.2]
                    rintro e w12 ⟨v12, rfl, O12, b12⟩
                    go_wp2_with fail
                    refine Calls.mono (same_any _ _ _ _ _ O12.byt (OW.up b12).byt) ?_
                    rw [decide_eq_true rfl]
                    rintro e w13 ⟨rfl, d13⟩
                    have c13 := belT (belT c10 b12) (d13.below _)
                    go_wp2_with fail
                    go_roundw
                    case rel => exact ⟨t + 1, by omega, by go_num, by go_num, Lib.hid ⟨⟨P8.up c13, H8.up c13, belT B8 c13⟩, fun t2 ht2 => by
                      obtain ⟨b9, e9, h9⟩ := HS.out.2 t2 ht2
                      exact ⟨b9, e9, cell_fr h9 (Fr.of_below (S := fun _ => False) c13) id⟩⟩⟩
                    case measure => simp [intOf]; omega
                  | false =>
                    rw [if_neg (by rw [hxg2]; simp)] at hrd
                    have HRD := Lib.hid hrd
                    clear hrd hxg2
                    go_wp2_with (first
                      | (at_make; refine wpList_make_bytes rfl _ _ 29 rfl j0 Try.underlying29 hj hy0 hy1 hy2 _ _ _ _ 32 rfl rfl rfl rfl (by decide) ?_; intro w9 OW b9; have hxk9 := cell_fr hxk (Fr.of_below (S := fun _ => False) b9) id)
                      | fail)
                    have c10 := b9
                    refine Calls.mono (bread_any _ _ _ _ _ _ _ _ (H8.up c10)) ?_
                    rw [HRD.out.1, HRD.out.2]
                    rintro e w12 ⟨v12, rfl, O12, b12⟩
                    go_wp2_with fail
                    refine Calls.mono (same_any _ _ _ _ _ O12.byt (OW.up b12).byt) ?_
                    rw [decide_eq_true rfl]
                    rintro e w13 ⟨rfl, d13⟩
                    have c13 := belT (belT c10 b12) (d13.below _)
                    go_wp2_with fail
                    go_roundw
                    case rel => exact ⟨t + 1, by omega, by go_num, by go_num, Lib.hid ⟨⟨P8.up c13, H8.up c13, belT B8 c13⟩, fun t2 ht2 => by
                      obtain ⟨b9, e9, h9⟩ := HS.out.2 t2 ht2
                      exact ⟨b9, e9, cell_fr h9 (Fr.of_below (S := fun _ => False) c13) id⟩⟩⟩
                    case measure => simp [intOf]; omega
                · rw [if_neg (by rw [List.getElem?_eq_none (by omega)]; simp)] at hrd
                  have HRD := Lib.hid hrd
                  clear hrd
                  go_wp2_with (first
                    | (at_make; refine wpList_make_bytes rfl _ _ 29 rfl j0 Try.underlying29 hj hy0 hy1 hy2 _ _ _ _ 32 rfl rfl rfl rfl (by decide) ?_; intro w9 OW b9)
                    | fail)
                  have c10 := b9
                  refine Calls.mono (bread_any _ _ _ _ _ _ _ _ (H8.up c10)) ?_
                  rw [HRD.out.1, HRD.out.2]
                  rintro e w12 ⟨v12, rfl, O12, b12⟩
                  go_wp2_with fail
                  refine Calls.mono (same_any _ _ _ _ _ O12.byt (OW.up b12).byt) ?_
                  rw [decide_eq_true rfl]
                  rintro e w13 ⟨rfl, d13⟩
                  have c13 := belT (belT c10 b12) (d13.below _)
                  go_wp2_with fail
                  go_roundw
                  case rel => exact ⟨t + 1, by omega, by go_num, by go_num, Lib.hid ⟨⟨P8.up c13, H8.up c13, belT B8 c13⟩, fun t2 ht2 => by
                    obtain ⟨b9, e9, h9⟩ := HS.out.2 t2 ht2
                    exact ⟨b9, e9, cell_fr h9 (Fr.of_below (S := fun _ => False) c13) id⟩⟩⟩
                  case measure => simp [intOf]; omega
              · have hte : t = cj := by omega
                subst hte
                go_wp2_with fail
                go_roundw
                case rel => exact ⟨j + 1, by omega, by go_num, by rw [HTS.out], HS.out.1⟩
                case measure => simp [intOf]; omega
          · have hje : j = 3 := by omega
            subst hje
            obtain ⟨P7, H7, B7⟩ := HS.out
            go_wp2_with fail
            refine Calls.mono (bwrites_any _ _ _ _ _ _ H7) ?_
            rw [HWR.out]
            rintro e w7 ⟨rfl, rfl⟩
            go_wp2_with fail
            refine Calls.mono (bpending_any _ _ _ _ _ _ H7 (by rw [HPEND.out]; decide)) ?_
            rw [HPEND.out]
            rintro e w7 ⟨rfl, rfl⟩
            go_wp2_with fail
            refine Calls.mono (bwakes_any _) ?_
            rintro e w8 ⟨rfl, b8⟩
            go_wp2
            go_ret
            exact ⟨rfl, belT B7 b8⟩
      · clear hlt
        go_wp2_with fail
        refine Calls.mono (bcrash_any wr _ _ _ _ _ _ ks H3 (Bools.up HKS.out B3) (fun hne y hy ho => by have h8 := Bools.lt HKS.out hne y hy; have h9 := H3.ges y ho; omega)) ?_
        rintro e w6 ⟨rfl, hs6, H6, F6, q6⟩
        have P6 := P3.fr F6 A3
        have B6 := Fr.below B3 F6 B3.size (fun y hy => H3.ges y hy)
        have HGET : Hid (∀ i, i < 3 → ∃ d, (B.crash (B.cb xC c) ks).ds[i]? = some d ∧ d.f = false ∧ d.p = [] ∧ ∀ a, a < c i → D.look d a = if ks[tot c i + a]? = some true then xC i a else List.replicate 32 0) := fun i hi => by
          have h9 := B.cb_crash_get xC xC_ok c (fun d hd => by have := le_sum c hd; have := HSUM.out; omega) ks hi
          rw [tot_ahead c hi] at h9
          exact h9
        have HPEND : Hid (B.pending (B.crash (B.cb xC c) ks) = 0) := B.cb_crash_pend xC c ks
        have HWR : Hid ((B.crash (B.cb xC c) ks).writes = ((tot c 3 : Nat) : Int)) := by show _ = _; rw [B.cb_crash]; rfl
        have HDN : Hid ((B.crash (B.cb xC c) ks).down = false) := by show _ = _; rw [B.cb_crash]
        have HC20 : Hid (∀ d, d < 3 → c d ≤ 20) := fun d hd => by have := le_sum c hd; have := HSUM.out; omega
        have HT60 : Hid (∀ j, j < 4 → tot c j ≤ 20) := fun j hj => by
          have h1 := HSUM.out
          have : j = 0 ∨ j = 1 ∨ j = 2 ∨ j = 3 := by omega
          rcases this with rfl | rfl | rfl | rfl <;> simp only [tot] <;> omega
        obtain ⟨bb, hbb⟩ : ∃ bb, bb = B.crash (B.cb xC c) ks := ⟨_, rfl⟩
        rw [← hbb] at H6 HGET HPEND HWR HDN
        clear hbb
        have HS0 : Hid (PA w6 W.heap.size w1.heap.size vs c ∧ IsBench w6 W.heap.size W.heap.size lv hs6 bb ∧ Below W.heap.size W w6) := ⟨P6, H6, B6⟩
        clear P6 H6 B6 F6 q6 P3 H3 A3 B3 hsum
        go_wp2_with fail
        go_loopw [11, 69] (fun kk i w' => ∃ j : Nat, j ≤ 3 ∧ i = .int .i64 j ∧ kk = .int .i64 (tot c j : Nat) ∧ Hid (PA w' W.heap.size w1.heap.size vs c ∧ IsBench w' W.heap.size W.heap.size lv hs6 bb ∧ Below W.heap.size W w')) (fun _ i _ => 3 - (intOf i).toNat)
        case atStart => exact ⟨0, by omega, rfl, rfl, HS0⟩
        case round =>
          clear HS0
          obtain ⟨j, hj3, rfl, rfl, HS⟩ := hrel
          by_cases hjl : j < 3
          · obtain ⟨P7, H7, B7⟩ := HS.out
            obtain ⟨aoj, capj, hvj⟩ := row_shape (P7.row j hjl)
            have hcj := P7.cell hjl
            rw [hvj] at hcj
            have hcj20 := HC20.out j hjl
            have htj20 := HT60.out j (by omega)
            have HTS := Lib.hid (tot_succ c hjl)
            have HROWJ : Hid (∀ W2, Below wr.heap.size wr W2 → W2.ownsRow W.heap.size 3 1 (.slice aoj (c j) capj) (c j) ((List.range (c j)).map n64)) := fun W2 hW2 => by
              have h9 := row_up (P7.row j hjl) hW2
              rw [hvj] at h9
              exact h9
            have hj0I : (0 : Int) ≤ (j : Int) := by omega
            have hj1I : (j : Int) < 3 := by omega
            have HS1 : Hid ((PA wr W.heap.size w1.heap.size vs c ∧ IsBench wr W.heap.size W.heap.size lv hs6 bb ∧ Below W.heap.size W wr) ∧ ∀ t, t < c j → ∃ b, aoj = some ⟨b, 0, none⟩ ∧ wr.cell? ⟨b, t, none⟩ = some (n64 t)) := ⟨⟨P7, H7, B7⟩, fun t ht => by
              rcases (HROWJ.out wr (belR _)).2 with ⟨e, h0⟩ | ⟨b, cap2, cur, e, _⟩
              · omega
              · cases e
                refine ⟨b, rfl, ?_⟩
                have h9 := (HROWJ.out wr (belR _)).cellAt t (by simpa using ht)
                rw [h9]
                simp [ht]⟩
            obtain ⟨cj, hcjn⟩ : ∃ cj, cj = c j := ⟨_, rfl⟩
            have HCJ := Lib.hid hcjn
            obtain ⟨tj, htjn⟩ : ∃ tj, tj = tot c j := ⟨_, rfl⟩
            have HTJ := Lib.hid htjn
            rw [← hcjn] at hcj hcj20 HS1 HTS
            rw [← htjn] at htj20 HTS ⊢
            clear P7 H7 B7 hvj hcjn htjn HROWJ HS
            go_wp2_with fail
            go_loopw [11, 76] (fun kk i w' => ∃ t : Nat, t ≤ cj ∧ i = .int .i64 t ∧ kk = .int .i64 (tj + t : Nat) ∧ Hid ((PA w' W.heap.size w1.heap.size vs c ∧ IsBench w' W.heap.size W.heap.size lv hs6 bb ∧ Below W.heap.size W w') ∧ ∀ t, t < cj → ∃ b, aoj = some ⟨b, 0, none⟩ ∧ w'.cell? ⟨b, t, none⟩ = some (n64 t))) (fun _ i _ => cj - (intOf i).toNat)
            case atStart => exact ⟨0, Nat.zero_le _, rfl, rfl, HS1⟩
            case round =>
              clear HS1
              obtain ⟨t, htc, rfl, rfl, HS⟩ := hrel
              by_cases htl : t < cj
              · obtain ⟨⟨P8, H8, B8⟩, hrowc⟩ := HS.out
                obtain ⟨bj, rfl, hct⟩ := hrowc t htl
                unfold n64 at hct
                obtain ⟨dk, hdk, hfk, hpk, hlk⟩ := HGET.out j hjl
                have hrd := B.read_ok (a := t) HDN.out hdk hfk (by omega)
                rw [hlk t (by rw [← HCJ.out]; exact htl), ← HTJ.out] at hrd
                clear hdk hfk hpk hlk hrowc
                have HKK := Lib.hid (Bools.up HKS.out B8)
                by_cases hkl2 : tj + t < ks.length
                · obtain ⟨bk, offk, xk, rfl, hxk, hxg⟩ := Bools.get HKK.out hkl2
                  have hxg2 := hxg.out
                  clear hxg
                  cases xk with
                  | true =>
                    rw [if_pos hxg2] at hrd
                    have HRD := Lib.hid hrd
                    clear hrd hxg2
                    go_wp2_with (first
                      | (at_make; refine wpList_make_bytes rfl _ _ 29 rfl j0 Try.underlying29 hj hy0 hy1 hy2 _ _ _ _ 32 rfl rfl rfl rfl (by decide) ?_; intro w9 O9 b9; have hxk9 := cell_fr hxk (Fr.of_below (S := fun _ => False) b9) id)
                      | fail)
                    refine Calls.mono (sector_any _ w9 (by omega)) ?_
                    rw [show secL (10 * (j : Int) + (t : Int) + 1) = xC j t from rfl]
                    rintro e w10 ⟨v10, rfl, OW, b10⟩
                    have c10 := belT b9 b10
                    go_wp2_with fail
                    refine Calls.mono (bread_any _ _ _ _ _ _ _ _ (H8.up c10)) ?_
                    rw [HRD.out.1, HRD.out.2]
                    rintro e w12 ⟨v12, rfl, O12, b12⟩
                    go_wp2_with fail
                    refine Calls.mono (same_any _ _ _ _ _ O12.byt (OW.up b12).byt) ?_
                    rw [decide_eq_true rfl]
                    rintro e w13 ⟨rfl, d13⟩
                    have c13 := belT (belT c10 b12) (d13.below _)
                    go_wp2_with fail
                    go_roundw
                    case rel => exact ⟨t + 1, by omega, by go_num, by go_num, Lib.hid ⟨⟨P8.up c13, H8.up c13, belT B8 c13⟩, fun t2 ht2 => by
                      obtain ⟨b9, e9, h9⟩ := HS.out.2 t2 ht2
                      exact ⟨b9, e9, cell_fr h9 (Fr.of_below (S := fun _ => False) c13) id⟩⟩⟩
                    case measure => simp [intOf]; omega
                  | false =>
                    rw [if_neg (by rw [hxg2]; simp)] at hrd
                    have HRD := Lib.hid hrd
                    clear hrd hxg2
                    go_wp2_with (first
                      | (at_make; refine wpList_make_bytes rfl _ _ 29 rfl j0 Try.underlying29 hj hy0 hy1 hy2 _ _ _ _ 32 rfl rfl rfl rfl (by decide) ?_; intro w9 OW b9; have hxk9 := cell_fr hxk (Fr.of_below (S := fun _ => False) b9) id)
                      | fail)
                    have c10 := b9
                    refine Calls.mono (bread_any _ _ _ _ _ _ _ _ (H8.up c10)) ?_
                    rw [HRD.out.1, HRD.out.2]
                    rintro e w12 ⟨v12, rfl, O12, b12⟩
                    go_wp2_with fail
                    refine Calls.mono (same_any _ _ _ _ _ O12.byt (OW.up b12).byt) ?_
                    rw [decide_eq_true rfl]
                    rintro e w13 ⟨rfl, d13⟩
                    have c13 := belT (belT c10 b12) (d13.below _)
                    go_wp2_with fail
                    go_roundw
                    case rel => exact ⟨t + 1, by omega, by go_num, by go_num, Lib.hid ⟨⟨P8.up c13, H8.up c13, belT B8 c13⟩, fun t2 ht2 => by
                      obtain ⟨b9, e9, h9⟩ := HS.out.2 t2 ht2
                      exact ⟨b9, e9, cell_fr h9 (Fr.of_below (S := fun _ => False) c13) id⟩⟩⟩
                    case measure => simp [intOf]; omega
                · rw [if_neg (by rw [List.getElem?_eq_none (by omega)]; simp)] at hrd
                  have HRD := Lib.hid hrd
                  clear hrd
                  go_wp2_with (first
                    | (at_make; refine wpList_make_bytes rfl _ _ 29 rfl j0 Try.underlying29 hj hy0 hy1 hy2 _ _ _ _ 32 rfl rfl rfl rfl (by decide) ?_; intro w9 OW b9)
                    | fail)
                  have c10 := b9
                  refine Calls.mono (bread_any _ _ _ _ _ _ _ _ (H8.up c10)) ?_
                  rw [HRD.out.1, HRD.out.2]
                  rintro e w12 ⟨v12, rfl, O12, b12⟩
                  go_wp2_with fail
                  refine Calls.mono (same_any _ _ _ _ _ O12.byt (OW.up b12).byt) ?_
                  rw [decide_eq_true rfl]
                  rintro e w13 ⟨rfl, d13⟩
                  have c13 := belT (belT c10 b12) (d13.below _)
                  go_wp2_with fail
                  go_roundw
                  case rel => exact ⟨t + 1, by omega, by go_num, by go_num, Lib.hid ⟨⟨P8.up c13, H8.up c13, belT B8 c13⟩, fun t2 ht2 => by
                    obtain ⟨b9, e9, h9⟩ := HS.out.2 t2 ht2
                    exact ⟨b9, e9, cell_fr h9 (Fr.of_below (S := fun _ => False) c13) id⟩⟩⟩
                  case measure => simp [intOf]; omega
              · have hte : t = cj := by omega
                subst hte
                go_wp2_with fail
                go_roundw
                case rel => exact ⟨j + 1, by omega, by go_num, by rw [HTS.out], HS.out.1⟩
                case measure => simp [intOf]; omega
          · have hje : j = 3 := by omega
            subst hje
            obtain ⟨P7, H7, B7⟩ := HS.out
            go_wp2_with fail
            refine Calls.mono (bwrites_any _ _ _ _ _ _ H7) ?_
            rw [HWR.out]
            rintro e w7 ⟨rfl, rfl⟩
            go_wp2_with fail
            refine Calls.mono (bpending_any _ _ _ _ _ _ H7 (by rw [HPEND.out]; decide)) ?_
            rw [HPEND.out]
            rintro e w7 ⟨rfl, rfl⟩
            go_wp2_with fail
            refine Calls.mono (bwakes_any _) ?_
            rintro e w8 ⟨rfl, b8⟩
            go_wp2
            go_ret
            exact ⟨rfl, belT B7 b8⟩
end Go.Proofs.Ytggljcdkiaggeaa
