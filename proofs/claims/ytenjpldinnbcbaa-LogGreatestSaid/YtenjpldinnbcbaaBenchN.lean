/- The walk of bench.New. -/
import Derived.Test.YtenjpldinnbcbaaBenchY
namespace Go.Proofs.Ytenjpldinnbcbaa
open Go.RowKit
set_option linter.unusedVariables false
set_option linter.unusedSimpArgs false
set_option maxRecDepth 100000
set_option maxHeartbeats 1000000
attribute [local go_sem ↓] Go.wp_at_zero Go.wp_at_succ

/-- one disk more -/
theorem IsBench.add {w w3 : World} {base g gd : Nat} {lv lv' : Value} {pvd : Value} {dd : D.Dk} {hs : List (Nat × Value)} {b : B.Bn} (h : IsBench w base g lv hs b) (hd : IsDisk w3 base gd pvd dd) (hnew : ∀ x, ofD gd pvd x → w.heap.size ≤ x)
    (hrow : w3.ownsRow base 100 1 lv' (hs.length + 1) ((hs ++ [(gd, pvd)]).map hptr)) (hF : Fr (fun x => lv.ownBlock = some x) w w3) (hp : ∀ x, lv'.ownBlock = some x → lv.ownBlock = some x ∨ (w.heap.size ≤ x ∧ ¬ ofD gd pvd x)) :
    IsBench (w3.setCell ⟨g, 3, none⟩ lv') base g lv' (hs ++ [(gd, pvd)]) { b with ds := b.ds ++ [dd] } := by
  have hgl := h.lt
  have hap : lv'.ownBlock ≠ some g := fun e => by
    rcases hp g e with h1 | h1
    · exact h.ap h1
    · omega
  have hFc : Fr (fun x => x = g) w3 (w3.setCell ⟨g, 3, none⟩ lv') := Fr.cell ⟨g, 3, none⟩ lv'
  have hget : ∀ (i : Nat) (y : Nat × Value), (hs ++ [(gd, pvd)])[i]? = some y → (i < hs.length ∧ hs[i]? = some y) ∨ (i = hs.length ∧ y = (gd, pvd)) := fun i y hy => by
    by_cases hi : i < hs.length
    · rw [List.getElem?_append_left hi] at hy
      exact .inl ⟨hi, hy⟩
    · rw [List.getElem?_append_right (by omega)] at hy
      have h0 : i - hs.length = 0 := by
        have := (List.getElem?_eq_some_iff.1 hy).1
        simp at this
        omega
      rw [h0] at hy
      exact .inr ⟨by omega, (Option.some.inj hy).symm⟩
  have hold : ∀ (i : Nat) (y : Nat × Value), hs[i]? = some y → ∀ x, ofD y.1 y.2 x → x < w.heap.size := fun i y hy x hx => h.lts x (.inr (.inr ⟨i, y, hy, hx⟩))
  refine ⟨h.ge, Nat.lt_of_lt_of_le hgl (Nat.le_trans hF.size hFc.size), ?_, ?_, ?_, by simp [h.len], ?_, ?_, ?_, hap⟩
  · have := rangeAt_setCell (v := lv') (rangeAt_fr h.cells hF h.ap) (o := 3) (by show 3 < 4; decide)
    exact this
  · exact World.there_setCells (there_fr h.there hF h.ap) g 3 [lv']
  · rw [show (hs ++ [(gd, pvd)]).length = hs.length + 1 by simp]
    exact row_fr hrow hFc (fun x hx e => hap (by rw [hx, e]))
  · intro i y d hy hd2
    rcases hget i y hy with ⟨hi, hy⟩ | ⟨hi, rfl⟩
    · rw [List.getElem?_append_left (by rw [← h.len]; exact hi)] at hd2
      exact ((h.disk i y d hy hd2).fr hF (fun x hx e => (h.own i y hy x hx).2 e)).fr hFc (fun x hx e => (h.own i y hy x hx).1 e)
    · rw [List.getElem?_append_right (by rw [← h.len]; omega), hi, ← h.len] at hd2
      simp at hd2
      subst hd2
      exact hd.fr hFc (fun x hx e => by have := hnew x hx; omega)
  · intro i j y z hy hz hij x hx hx2
    rcases hget i y hy with ⟨hi, hy⟩ | ⟨hi, rfl⟩
    · rcases hget j z hz with ⟨hj, hz⟩ | ⟨hj, rfl⟩
      · exact h.apart i j y z hy hz hij x hx hx2
      · have h1 := hold i y hy x hx
        have h2 := hnew x hx2
        omega
    · rcases hget j z hz with ⟨hj, hz⟩ | ⟨hj, rfl⟩
      · have h1 := hold j z hz x hx2
        have h2 := hnew x hx
        omega
      · omega
  · intro i y hy x hx
    rcases hget i y hy with ⟨hi, hy⟩ | ⟨hi, rfl⟩
    · refine ⟨(h.own i y hy x hx).1, fun e => ?_⟩
      rcases hp x e with h1 | h1
      · exact (h.own i y hy x hx).2 h1
      · have := hold i y hy x hx
        omega
    · refine ⟨fun e => by have := hnew x hx; omega, fun e => ?_⟩
      rcases hp x e with h1 | h1
      · have h2 := (h.row.lt x h1).2
        have h3 := hnew x hx
        omega
      · exact h1.2 hx
theorem built_cnt : Try.prog.built 42 [(1, .int .i64 (-1))] = some #[.int .i64 0, .int .i64 (-1), .bool false] := by kernel_rfl
theorem built_bench : Try.prog.built 45 [(0, .agg #[.int .i64 0, .int .i64 (-1), .bool false])] = some #[.int .i64 0, .int .i64 (-1), .bool false, .slice none 0 0] := by kernel_rfl
theorem ptr_info : (Try.prog.info? 100).map (fun i => (i.zero, i.size, i.bytes)) = some (some (.pointer none), 1, 8) := by kernel_rfl
theorem B.fresh_succ (n : Nat) : { B.fresh n with ds := (B.fresh n).ds ++ [D.blank] } = B.fresh (n + 1) := by
  unfold B.fresh
  rw [List.replicate_succ']
theorem hptr_one (l : List (Nat × Value)) : ∀ u ∈ l.map hptr, u.oneCell' = true := by
  intro u hu
  obtain ⟨x, _, rfl⟩ := List.mem_map.1 hu
  rfl
theorem bnew_any (w : World) (n : Nat) (h1 : 1 ≤ n) (h8 : n ≤ 8) :
    Calls Try.prog 15 #[.int .i64 n] w fun e w' => e = .returned (.tuple #[.pointer (some ⟨w.heap.size, 0, none⟩), .int .i64 0]) ∧ (∃ lv hs, IsBench w' w.heap.size w.heap.size lv hs (B.fresh n)) ∧ Below w.heap.size w w' := by
  obtain ⟨j0, hj, hy0, hy1, hy2⟩ := info_parts ptr_info
  have hbc := built_cnt
  have hbb := built_bench
  have HBC := Lib.hid hbc
  have HBB := Lib.hid hbb
  have HR0 : Hid (∃ lv hs, IsBench (w.alloc (.cells #[.int .i64 0, .int .i64 (-1), .bool false, .slice none 0 0] 45)) w.heap.size w.heap.size lv hs (B.fresh 0) ∧ Below w.heap.size w (w.alloc (.cells #[.int .i64 0, .int .i64 (-1), .bool false, .slice none 0 0] 45))) := by
    have hb := Box.new w [.int .i64 0, .int .i64 (-1), .bool false, .slice none 0 0] 45
    exact ⟨.slice none 0 0, [], ⟨Nat.le_refl _, by simp, hb.range, hb.there, World.ownsRow_nil _ _ _ _, rfl, (fun i h d hh => by simp at hh), (fun i j h k hh => by simp at hh), (fun i h hh => by simp at hh), (by intro e; cases e)⟩, belA1 (belR w)⟩
  clear hbc hbb
  go_enter Try.func15, Try.ntmps15
  go_wp2_with (first
    | (refine wpList_build_as rfl 42 _ rfl #[.int .i64 0, .int .i64 (-1), .bool false] HBC.out ?_)
    | (refine wpList_build_as rfl 45 _ rfl #[.int .i64 0, .int .i64 (-1), .bool false, .slice none 0 0] HBB.out ?_)
    | fail)
  go_loopw [15] (fun i w' => ∃ k : Nat, k ≤ n ∧ i = .int .i64 k ∧ Hid (∃ lv hs, IsBench w' w.heap.size w.heap.size lv hs (B.fresh k) ∧ Below w.heap.size w w')) (fun i _ => n - (intOf i).toNat)
  case atStart => exact ⟨0, Nat.zero_le _, rfl, HR0⟩
  case round =>
    clear HR0
    obtain ⟨k, hk, rfl, HR⟩ := hrel
    obtain ⟨lv, hs, H1, B1⟩ := HR.out
    by_cases hlt : k < n
    · have hc3 := H1.cell.2.2.2
      have hz3 := H1.frozen (o := 3) (by decide)
      have hfl : (B.fresh k).ds.length = k := by unfold B.fresh; simp
      obtain ⟨ao, cap, hlv, hcap, _⟩ := H1.shape
      rw [hfl] at hlv hcap
      subst hlv
      have hlen : hs.length = k := by rw [H1.len]; unfold B.fresh; simp
      have HH := Lib.hid H1
      have HB1 := Lib.hid B1
      have HLN := Lib.hid hlen
      have hu65 := Try.underlying43
      have hgl : w.heap.size < wr.heap.size := H1.lt
      clear H1 B1 hlen
      go_wp2_with fail
      have hcW : ∀ ob, (wr.alloc ob).cell? ⟨w.heap.size, 3, none⟩ = some (.slice ao k cap) := fun ob => cell_fr hc3 (Fr.alloc (S := fun _ => False) _ _) id
      have hBr : Below wr.heap.size wr wr := belR _
      have HOWN : Hid (∀ W, Below wr.heap.size wr W → W.ownsRow w.heap.size 100 1 (.slice ao k cap) k (hs.map hptr)) := fun W hW => by
        have h9 := row_fr HH.out.row (Fr.of_below (S := fun _ => False) hW) (fun _ _ => id)
        rw [HLN.out] at h9
        exact h9
      have HADD : Hid (∀ (W w3 : World) (v' : Value) (hd : IsDisk W w.heap.size wr.heap.size (.slice none 0 0) D.blank), Below wr.heap.size wr W → W.grownBy w3 (Value.slice ao k cap).ownBlock → w3.ownsRow w.heap.size 100 1 v' (k + 1) (hs.map hptr ++ [.pointer (some ⟨wr.heap.size, 0, none⟩)]) → (∀ x, v'.ownBlock = some x → (Value.slice ao k cap).ownBlock = some x ∨ W.heap.size ≤ x) →
          IsBench (w3.setCell ⟨w.heap.size, 3, none⟩ v') w.heap.size w.heap.size v' (hs ++ [(wr.heap.size, .slice none 0 0)]) (B.fresh (k + 1)) ∧ Below w.heap.size w (w3.setCell ⟨w.heap.size, 3, none⟩ v') ∧ w3.cell? ⟨w.heap.size, 3, none⟩ = some (.slice ao k cap) ∧ w3.frozen? ⟨w.heap.size, 3, none⟩ = false) := fun W w3 v' hd hW hg ho hp => by
        have hF : Fr (fun x => (Value.slice ao k cap).ownBlock = some x) wr w3 := (Fr.of_below hW).trans (Fr.grown hg)
        have hFg := Fr.grown hg
        have hnd : ¬ (Value.slice ao k cap).ownBlock = some wr.heap.size := fun e => by
          have := (HH.out.row.lt _ e).2
          omega
        refine ⟨?_, ?_, cell_fr (cell_fr hc3 (Fr.of_below (S := fun _ => False) hW) id) hFg HH.out.ap, there_frozen (there_fr (there_fr HH.out.there (Fr.of_below (S := fun _ => False) hW) id) hFg HH.out.ap) (by decide)⟩
        · rw [← B.fresh_succ]
          refine HH.out.add (hd.fr hFg (fun x hx => by rcases hx with rfl | hx; exact hnd; cases hx)) (fun x hx => by rcases hx with rfl | hx; exact Nat.le_refl _; cases hx) ?_ hF (fun x hx => ?_)
          · rw [HLN.out, List.map_append]
            exact ho
          · rcases hp x hx with h9 | h9
            · exact .inl h9
            · have := hd.lt
              exact .inr ⟨by have := hW.size; omega, fun e => by rcases e with e | e; omega; cases e⟩
        · have h1 := Fr.below HB1.out hF HB1.out.size (fun x hx => (HH.out.row.lt x hx).1)
          exact Fr.below h1 (Fr.cell ⟨w.heap.size, 3, none⟩ v') h1.size (fun x hx => by rw [hx]; exact Nat.le_refl _)
      have hHeld0 : True := trivial
      refine wp_region_held_drew (S := fun _ => True) (by kernel_rfl) trivial (fun hHeld => ?_)
      refine wpAnyH_take (i := 0) (oi := _) (v := ?_) rfl (by kernel_rfl) (by kernel_rfl) (by kernel_rfl) (fun _ _ _ h => h) (Or.inl ⟨by rfl, ?_⟩) (by assumption) ?_
      rotate_left
      · intro w hSw
        go_simp
        try with_reducible rfl
      try simp only [Act.put, List.getElem_toArray, List.getElem_cons_zero, List.getElem_cons_succ, List.setIfInBounds_toArray, List.set_cons_zero, List.set_cons_succ]
      refine wpAnyH_take (i := 1) (oi := _) (v := ?_) rfl (by kernel_rfl) (by kernel_rfl) (by kernel_rfl) (fun _ _ _ h => h) (Or.inl ⟨by rfl, ?_⟩) (by assumption) ?_
      rotate_left
      · intro w hSw
        go_simp
        try with_reducible rfl
      try simp only [Act.put, List.getElem_toArray, List.getElem_cons_zero, List.getElem_cons_succ, List.setIfInBounds_toArray, List.set_cons_zero, List.set_cons_succ]
      refine wpAnyH_take (i := 2) (oi := _) (v := ?_) rfl (by kernel_rfl) (by kernel_rfl) (by kernel_rfl) (fun _ _ _ h => h) (Or.inl ⟨by rfl, ?_⟩) (by assumption) ?_
      rotate_left
      · intro w hSw
        go_simp
        try with_reducible rfl
      try simp only [Act.put, List.getElem_toArray, List.getElem_cons_zero, List.getElem_cons_succ, List.setIfInBounds_toArray, List.set_cons_zero, List.set_cons_succ]
      refine wpAnyH_take (i := 3) (oi := _) (v := ?_) rfl (by kernel_rfl) (by kernel_rfl) (by kernel_rfl) (fun _ _ _ h => h) (Or.inl ⟨by rfl, ?_⟩) (by assumption) ?_
      rotate_left
      · intro w hSw
        go_simp
        try with_reducible rfl
      try simp only [Act.put, List.getElem_toArray, List.getElem_cons_zero, List.getElem_cons_succ, List.setIfInBounds_toArray, List.set_cons_zero, List.set_cons_succ]
      refine wpAnyH_ready (rs := [4, 5]) (by kernel_rfl) (by simp) ?_
      refine AllReadyH.cons (o := _) rfl (fun K hK => ?_) (AllReadyH.cons (o := _) rfl (fun K hK => ?_) AllReadyH.nil)
      · go_simp
        refine hK.out _ _ trivial (fun hHeld => ?_)
        clear hK K
        try simp only [Act.put, List.getElem_toArray, List.getElem_cons_zero, List.getElem_cons_succ, List.setIfInBounds_toArray, List.set_cons_zero, List.set_cons_succ]
        refine wpAnyH_ready (rs := [5]) (by kernel_rfl) (by simp) ?_
        refine AllReadyH.cons (o := _) rfl (fun K hK => ?_) AllReadyH.nil
        go_simp
        refine Calls.mono (newI _) ?_
        rintro e w2 ⟨rfl, D2, b2⟩
        have hB2 : Below wr.heap.size wr w2 := (by first | exact b2 | exact belT (belDr (belR _)) b2)
        have hcA : w2.cell? ⟨w.heap.size, 3, none⟩ = some (.slice ao k cap) := cell_fr hc3 (Fr.of_below (S := fun _ => False) hB2) id
        have hcB : ∀ ob, (w2.alloc ob).cell? ⟨w.heap.size, 3, none⟩ = some (.slice ao k cap) := fun ob => cell_fr hcA (Fr.alloc (S := fun _ => False) _ _) id
        have hD2 : IsDisk w2 w.heap.size wr.heap.size (.slice none 0 0) D.blank := D2.low (Nat.le_of_lt hgl)
        try go_simp
        refine hK.out _ _ trivial (fun hHeld => ?_)
        clear hK K
        try simp only [Act.put, List.getElem_toArray, List.getElem_cons_zero, List.getElem_cons_succ, List.setIfInBounds_toArray, List.set_cons_zero, List.set_cons_succ]
        refine wpAnyH_ready (rs := [6]) (by kernel_rfl) (by simp) ?_
        refine AllReadyH.cons (o := _) rfl (fun K hK => ?_) AllReadyH.nil
        go_simp
        refine hK.out _ _ trivial (fun hHeld => ?_)
        clear hK K
        try simp only [Act.put, List.getElem_toArray, List.getElem_cons_zero, List.getElem_cons_succ, List.setIfInBounds_toArray, List.set_cons_zero, List.set_cons_succ]
        refine wpAnyH_ready (rs := [7]) (by kernel_rfl) (by simp) ?_
        refine AllReadyH.cons (o := _) rfl (fun K hK => ?_) AllReadyH.nil
        rw [if_pos (by rfl)]
        refine wp_append_pl _ _ 43 rfl w.heap.size 100 j0 _ 1 8 hu65 hj hy0 hy1 hy2 rfl (by decide) (.slice ao k cap) k (hs.map hptr) rfl (HOWN.out _ (by iterate 6 try (first | assumption | exact belR _ | apply belDr | apply belAlloc))) ⟨w2.heap.size, 0, none⟩ 1 1 [.pointer (some ⟨wr.heap.size, 0, none⟩)] rfl rfl (by first | exact news_at rfl rfl | exact fun j u hu => news_at (W := w2) rfl rfl j u hu) (fun u hu => by rw [List.mem_singleton.1 hu]; rfl) (by simp only [maxLen]; omega) (by omega) (by first | (have := hB2.size; simp; omega)) ?_
        intro v' w3 ho hg hpl
        obtain ⟨ao', cap', rfl⟩ := row_shape ho
        obtain ⟨HQ, hQB, hcS, hzS⟩ := HADD.out _ w3 _ (hD2.up (by iterate 6 try (first | exact belR _ | apply belDr | apply belAlloc))) (by iterate 6 try (first | assumption | exact belR _ | apply belDr | apply belAlloc)) hg ho hpl
        have HQ := Lib.hid HQ
        refine hK.out _ _ trivial (fun hHeld => ?_)
        clear hK K
        try simp only [Act.put, List.getElem_toArray, List.getElem_cons_zero, List.getElem_cons_succ, List.setIfInBounds_toArray, List.set_cons_zero, List.set_cons_succ]
        refine wpAnyH_take (i := 8) (oi := _) (v := ?_) rfl (by kernel_rfl) (by kernel_rfl) (by kernel_rfl) (fun _ _ _ h => h) (Or.inl ⟨by rfl, ?_⟩) (by assumption) ?_
        rotate_left
        · intro w hSw
          go_simp
          try with_reducible rfl
        try simp only [Act.put, List.getElem_toArray, List.getElem_cons_zero, List.getElem_cons_succ, List.setIfInBounds_toArray, List.set_cons_zero, List.set_cons_succ]
        refine wpAnyH_take (i := 9) (oi := _) (v := ?_) rfl (by kernel_rfl) (by kernel_rfl) (by kernel_rfl) (fun _ _ _ h => h) (Or.inl ⟨by rfl, ?_⟩) (by assumption) ?_
        rotate_left
        · intro w hSw
          go_simp
          try with_reducible rfl
        try simp only [Act.put, List.getElem_toArray, List.getElem_cons_zero, List.getElem_cons_succ, List.setIfInBounds_toArray, List.set_cons_zero, List.set_cons_succ]
        refine wpAnyH_ready (rs := [10]) (by kernel_rfl) (by simp) ?_
        refine AllReadyH.cons (o := _) rfl (fun K hK => ?_) AllReadyH.nil
        go_simp
        refine hK.out _ _ trivial (fun hHeld => ?_)
        clear hK K
        refine wpAnyH_done (by kernel_rfl) ?_ _
        go_wp2
        go_roundw
        case rel => exact ⟨k + 1, by omega, by go_num, Lib.hid ⟨_, _, HQ.out, hQB⟩⟩
        case measure => simp [intOf]; omega
      · go_simp
        refine Calls.mono (newI _) ?_
        rintro e w2 ⟨rfl, D2, b2⟩
        have hB2 : Below wr.heap.size wr w2 := (by first | exact b2 | exact belT (belDr (belR _)) b2)
        have hcA : w2.cell? ⟨w.heap.size, 3, none⟩ = some (.slice ao k cap) := cell_fr hc3 (Fr.of_below (S := fun _ => False) hB2) id
        have hcB : ∀ ob, (w2.alloc ob).cell? ⟨w.heap.size, 3, none⟩ = some (.slice ao k cap) := fun ob => cell_fr hcA (Fr.alloc (S := fun _ => False) _ _) id
        have hD2 : IsDisk w2 w.heap.size wr.heap.size (.slice none 0 0) D.blank := D2.low (Nat.le_of_lt hgl)
        try go_simp
        refine hK.out _ _ trivial (fun hHeld => ?_)
        clear hK K
        try simp only [Act.put, List.getElem_toArray, List.getElem_cons_zero, List.getElem_cons_succ, List.setIfInBounds_toArray, List.set_cons_zero, List.set_cons_succ]
        refine wpAnyH_ready (rs := [4, 6]) (by kernel_rfl) (by simp) ?_
        refine AllReadyH.cons (o := _) rfl (fun K hK => ?_) (AllReadyH.cons (o := _) rfl (fun K hK => ?_) AllReadyH.nil)
        · go_simp
          refine hK.out _ _ trivial (fun hHeld => ?_)
          clear hK K
          try simp only [Act.put, List.getElem_toArray, List.getElem_cons_zero, List.getElem_cons_succ, List.setIfInBounds_toArray, List.set_cons_zero, List.set_cons_succ]
          refine wpAnyH_ready (rs := [6]) (by kernel_rfl) (by simp) ?_
          refine AllReadyH.cons (o := _) rfl (fun K hK => ?_) AllReadyH.nil
          go_simp
          refine hK.out _ _ trivial (fun hHeld => ?_)
          clear hK K
          try simp only [Act.put, List.getElem_toArray, List.getElem_cons_zero, List.getElem_cons_succ, List.setIfInBounds_toArray, List.set_cons_zero, List.set_cons_succ]
          refine wpAnyH_ready (rs := [7]) (by kernel_rfl) (by simp) ?_
          refine AllReadyH.cons (o := _) rfl (fun K hK => ?_) AllReadyH.nil
          rw [if_pos (by rfl)]
          refine wp_append_pl _ _ 43 rfl w.heap.size 100 j0 _ 1 8 hu65 hj hy0 hy1 hy2 rfl (by decide) (.slice ao k cap) k (hs.map hptr) rfl (HOWN.out _ (by iterate 6 try (first | assumption | exact belR _ | apply belDr | apply belAlloc))) ⟨w2.heap.size, 0, none⟩ 1 1 [.pointer (some ⟨wr.heap.size, 0, none⟩)] rfl rfl (by first | exact news_at rfl rfl | exact fun j u hu => news_at (W := w2) rfl rfl j u hu) (fun u hu => by rw [List.mem_singleton.1 hu]; rfl) (by simp only [maxLen]; omega) (by omega) (by first | (have := hB2.size; simp; omega)) ?_
          intro v' w3 ho hg hpl
          obtain ⟨ao', cap', rfl⟩ := row_shape ho
          obtain ⟨HQ, hQB, hcS, hzS⟩ := HADD.out _ w3 _ (hD2.up (by iterate 6 try (first | exact belR _ | apply belDr | apply belAlloc))) (by iterate 6 try (first | assumption | exact belR _ | apply belDr | apply belAlloc)) hg ho hpl
          have HQ := Lib.hid HQ
          refine hK.out _ _ trivial (fun hHeld => ?_)
          clear hK K
          try simp only [Act.put, List.getElem_toArray, List.getElem_cons_zero, List.getElem_cons_succ, List.setIfInBounds_toArray, List.set_cons_zero, List.set_cons_succ]
          refine wpAnyH_take (i := 8) (oi := _) (v := ?_) rfl (by kernel_rfl) (by kernel_rfl) (by kernel_rfl) (fun _ _ _ h => h) (Or.inl ⟨by rfl, ?_⟩) (by assumption) ?_
          rotate_left
          · intro w hSw
            go_simp
            try with_reducible rfl
          try simp only [Act.put, List.getElem_toArray, List.getElem_cons_zero, List.getElem_cons_succ, List.setIfInBounds_toArray, List.set_cons_zero, List.set_cons_succ]
          refine wpAnyH_take (i := 9) (oi := _) (v := ?_) rfl (by kernel_rfl) (by kernel_rfl) (by kernel_rfl) (fun _ _ _ h => h) (Or.inl ⟨by rfl, ?_⟩) (by assumption) ?_
          rotate_left
          · intro w hSw
            go_simp
            try with_reducible rfl
          try simp only [Act.put, List.getElem_toArray, List.getElem_cons_zero, List.getElem_cons_succ, List.setIfInBounds_toArray, List.set_cons_zero, List.set_cons_succ]
          refine wpAnyH_ready (rs := [10]) (by kernel_rfl) (by simp) ?_
          refine AllReadyH.cons (o := _) rfl (fun K hK => ?_) AllReadyH.nil
          go_simp
          refine hK.out _ _ trivial (fun hHeld => ?_)
          clear hK K
          refine wpAnyH_done (by kernel_rfl) ?_ _
          go_wp2
          go_roundw
          case rel => exact ⟨k + 1, by omega, by go_num, Lib.hid ⟨_, _, HQ.out, hQB⟩⟩
          case measure => simp [intOf]; omega
        · go_simp
          refine hK.out _ _ trivial (fun hHeld => ?_)
          clear hK K
          try simp only [Act.put, List.getElem_toArray, List.getElem_cons_zero, List.getElem_cons_succ, List.setIfInBounds_toArray, List.set_cons_zero, List.set_cons_succ]
          refine wpAnyH_ready (rs := [4]) (by kernel_rfl) (by simp) ?_
          refine AllReadyH.cons (o := _) rfl (fun K hK => ?_) AllReadyH.nil
          go_simp
          refine hK.out _ _ trivial (fun hHeld => ?_)
          clear hK K
          try simp only [Act.put, List.getElem_toArray, List.getElem_cons_zero, List.getElem_cons_succ, List.setIfInBounds_toArray, List.set_cons_zero, List.set_cons_succ]
          refine wpAnyH_ready (rs := [7]) (by kernel_rfl) (by simp) ?_
          refine AllReadyH.cons (o := _) rfl (fun K hK => ?_) AllReadyH.nil
          rw [if_pos (by rfl)]
          refine wp_append_pl _ _ 43 rfl w.heap.size 100 j0 _ 1 8 hu65 hj hy0 hy1 hy2 rfl (by decide) (.slice ao k cap) k (hs.map hptr) rfl (HOWN.out _ (by iterate 6 try (first | assumption | exact belR _ | apply belDr | apply belAlloc))) ⟨w2.heap.size, 0, none⟩ 1 1 [.pointer (some ⟨wr.heap.size, 0, none⟩)] rfl rfl (by first | exact news_at rfl rfl | exact fun j u hu => news_at (W := w2) rfl rfl j u hu) (fun u hu => by rw [List.mem_singleton.1 hu]; rfl) (by simp only [maxLen]; omega) (by omega) (by first | (have := hB2.size; simp; omega)) ?_
          intro v' w3 ho hg hpl
          obtain ⟨ao', cap', rfl⟩ := row_shape ho
          obtain ⟨HQ, hQB, hcS, hzS⟩ := HADD.out _ w3 _ (hD2.up (by iterate 6 try (first | exact belR _ | apply belDr | apply belAlloc))) (by iterate 6 try (first | assumption | exact belR _ | apply belDr | apply belAlloc)) hg ho hpl
          have HQ := Lib.hid HQ
          refine hK.out _ _ trivial (fun hHeld => ?_)
          clear hK K
          try simp only [Act.put, List.getElem_toArray, List.getElem_cons_zero, List.getElem_cons_succ, List.setIfInBounds_toArray, List.set_cons_zero, List.set_cons_succ]
          refine wpAnyH_take (i := 8) (oi := _) (v := ?_) rfl (by kernel_rfl) (by kernel_rfl) (by kernel_rfl) (fun _ _ _ h => h) (Or.inl ⟨by rfl, ?_⟩) (by assumption) ?_
          rotate_left
          · intro w hSw
            go_simp
            try with_reducible rfl
          try simp only [Act.put, List.getElem_toArray, List.getElem_cons_zero, List.getElem_cons_succ, List.setIfInBounds_toArray, List.set_cons_zero, List.set_cons_succ]
          refine wpAnyH_take (i := 9) (oi := _) (v := ?_) rfl (by kernel_rfl) (by kernel_rfl) (by kernel_rfl) (fun _ _ _ h => h) (Or.inl ⟨by rfl, ?_⟩) (by assumption) ?_
          rotate_left
          · intro w hSw
            go_simp
            try with_reducible rfl
          try simp only [Act.put, List.getElem_toArray, List.getElem_cons_zero, List.getElem_cons_succ, List.setIfInBounds_toArray, List.set_cons_zero, List.set_cons_succ]
          refine wpAnyH_ready (rs := [10]) (by kernel_rfl) (by simp) ?_
          refine AllReadyH.cons (o := _) rfl (fun K hK => ?_) AllReadyH.nil
          go_simp
          refine hK.out _ _ trivial (fun hHeld => ?_)
          clear hK K
          refine wpAnyH_done (by kernel_rfl) ?_ _
          go_wp2
          go_roundw
          case rel => exact ⟨k + 1, by omega, by go_num, Lib.hid ⟨_, _, HQ.out, hQB⟩⟩
          case measure => simp [intOf]; omega
    · have hke : k = n := by omega
      subst hke
      clear hlt
      go_wp2
      go_ret2
      exact ⟨rfl, ⟨lv, hs, H1⟩, B1⟩
end Go.Proofs.Ytenjpldinnbcbaa
