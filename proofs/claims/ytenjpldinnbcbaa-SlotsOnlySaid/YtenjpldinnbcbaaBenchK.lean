/- The walk of bench's Clone. -/
import Derived.Test.YtenjpldinnbcbaaBenchL
namespace Go.Proofs.Ytenjpldinnbcbaa
open Go.RowKit
set_option linter.unusedVariables false
set_option linter.unusedSimpArgs false
set_option maxRecDepth 100000
set_option maxHeartbeats 1000000
attribute [local go_sem ↓] Go.wp_at_zero Go.wp_at_succ

theorem built_b2 (a c : Int) (b : Bool) : Try.prog.built 45 [(0, .agg #[.int .i64 a, .int .i64 c, .bool b])] = some #[.int .i64 a, .int .i64 c, .bool b, .slice none 0 0] := by kernel_rfl
theorem cnt_size : (Try.prog.info? 42).map (·.size) = some 3 := by kernel_rfl
def firstK (b : B.Bn) (k : Nat) : B.Bn := { b with ds := b.ds.take k }
theorem firstK_succ {b : B.Bn} {k : Nat} {d : D.Dk} (h : b.ds[k]? = some d) : { firstK b k with ds := (firstK b k).ds ++ [d] } = firstK b (k + 1) := by
  unfold firstK
  simp only
  rw [take_succ_get h]
theorem bclone_any (w : World) (base g : Nat) (lv : Value) (hs : List (Nat × Value)) (b : B.Bn) (h : IsBench w base g lv hs b) (hn : b.ds.length ≤ 8) (hsz : ∀ d ∈ b.ds, d.p.length * 40 ≤ 140737488355328) :
    Calls Try.prog 44 #[.pointer (some ⟨g, 0, none⟩)] w fun e w' => e = .returned (.pointer (some ⟨w.heap.size, 0, none⟩)) ∧ (∃ lv' hs', IsBench w' w.heap.size w.heap.size lv' hs' b) ∧ Below w.heap.size w w' := by
  obtain ⟨j0, hj, hy0, hy1, hy2⟩ := info_parts ptr_info
  have HBB := Lib.hid (built_b2 b.writes b.left b.down)
  have hcl := h.cell
  have HCR : Hid (w.rangeAt g 0 [.int .i64 b.writes, .int .i64 b.left, .bool b.down]) := fun j v hv => by
    have := h.cells j v (by unfold bcells; rw [show [Value.int .i64 b.writes, .int .i64 b.left, .bool b.down, lv] = [Value.int .i64 b.writes, .int .i64 b.left, .bool b.down] ++ [lv] from rfl, List.getElem?_append_left (List.getElem?_eq_some_iff.1 hv).1]; exact hv)
    exact this
  have hc3 := hcl.2.2.2
  have hc3a : ∀ ob, (w.alloc ob).cell? ⟨g, 3, none⟩ = some lv := fun ob => cell_fr hc3 (Fr.alloc (S := fun _ => False) _ _) id
  have HSIZ := Lib.hid cnt_size
  have HH0 := Lib.hid h
  have HSZ := Lib.hid hsz
  obtain ⟨ao0, cap0, rfl, hcap0, _⟩ := h.shape
  obtain ⟨m, hm⟩ : ∃ m, m = b.ds.length := ⟨_, rfl⟩
  have HM := Lib.hid hm
  rw [← hm] at hc3 hc3a hcap0 hn
  have HR0 : Hid (∃ lv' hs', IsBench (w.alloc (.cells #[.int .i64 b.writes, .int .i64 b.left, .bool b.down, .slice none 0 0] 45)) w.heap.size w.heap.size lv' hs' (firstK b 0) ∧ Below w.heap.size w (w.alloc (.cells #[.int .i64 b.writes, .int .i64 b.left, .bool b.down, .slice none 0 0] 45))) := by
    have hb := Box.new w [.int .i64 b.writes, .int .i64 b.left, .bool b.down, .slice none 0 0] 45
    exact ⟨.slice none 0 0, [], ⟨Nat.le_refl _, by simp, hb.range, hb.there, World.ownsRow_nil _ _ _ _, by unfold firstK; simp, (fun i h d hh => by simp at hh), (fun i j h k hh => by simp at hh), (fun i h hh => by simp at hh), (by intro e; cases e)⟩, belA1 (belR w)⟩
  clear h hcl hsz hm
  go_enter Try.func44, Try.ntmps44
  go_wp2_with (first
    | (refine wpList_load_mid rfl 42 _ rfl g 0 rfl [.int .i64 b.writes, .int .i64 b.left, .bool b.down] _ HCR.out Try.underlying42 rfl HSIZ.out ?_)
    | (refine wpList_build_as rfl 45 _ rfl #[.int .i64 b.writes, .int .i64 b.left, .bool b.down, .slice none 0 0] HBB.out ?_)
    | fail)
  go_loopw [17] (fun i w' => ∃ k : Nat, k ≤ m ∧ i = .int .i64 k ∧ Hid (∃ lv' hs', IsBench w' w.heap.size w.heap.size lv' hs' (firstK b k) ∧ Below w.heap.size w w')) (fun i _ => m - (intOf i).toNat)
  case atStart => exact ⟨0, Nat.zero_le _, rfl, HR0⟩
  case round =>
    clear HR0 hc3 hc3a
    obtain ⟨k, hk, rfl, HR⟩ := hrel
    obtain ⟨lv, hs, H1, B1⟩ := HR.out
    by_cases hlt : k < m
    · have hc4 := H1.cell.2.2.2
      have hz3 := H1.frozen (o := 3) (by decide)
      have hfl : (firstK b k).ds.length = k := by unfold firstK; rw [List.length_take, ← HM.out]; omega
      obtain ⟨ao, cap, hlv, hcap, _⟩ := H1.shape
      rw [hfl] at hlv hcap
      subst hlv
      have hlen : hs.length = k := by rw [H1.len]; exact hfl
      have HU := HH0.out.up B1
      obtain ⟨bl, y, dk, hao, hcell, hky, hdk, hD⟩ := HU.get (i := k) (by rw [← HM.out]; exact hlt)
      subst hao
      have HDK : Hid (∀ W, Below wr.heap.size wr W → IsDisk W base y.1 y.2 dk) := fun W hW => hD.up hW
      have HDS : Hid (dk.p.length * 40 ≤ 140737488355328) := HSZ.out dk (List.mem_of_getElem? hdk)
      have HSUC : Hid ({ firstK b k with ds := (firstK b k).ds ++ [dk] } = firstK b (k + 1)) := firstK_succ hdk
      have HH := Lib.hid H1
      have HB1 := Lib.hid B1
      have HLN := Lib.hid hlen
      have hu65 := Try.underlying43
      have hgl : w.heap.size < wr.heap.size := H1.lt
      clear H1 B1 hlen HU hky hdk hD hfl
      go_wp2_with fail
      have hcW : ∀ ob, (wr.alloc ob).cell? ⟨w.heap.size, 3, none⟩ = some (.slice ao k cap) := fun ob => cell_fr hc4 (Fr.alloc (S := fun _ => False) _ _) id
      have hBr : Below wr.heap.size wr wr := belR _
      have HOWN : Hid (∀ W, Below wr.heap.size wr W → W.ownsRow w.heap.size 100 1 (.slice ao k cap) k (hs.map hptr)) := fun W hW => by
        have h9 := row_fr HH.out.row (Fr.of_below (S := fun _ => False) hW) (fun _ _ => id)
        rw [HLN.out] at h9
        exact h9
      have HADD : Hid (∀ (W w3 : World) (v' pvd : Value) (hd : IsDisk W wr.heap.size wr.heap.size pvd dk), Below wr.heap.size wr W → W.grownBy w3 (Value.slice ao k cap).ownBlock → w3.ownsRow w.heap.size 100 1 v' (k + 1) (hs.map hptr ++ [.pointer (some ⟨wr.heap.size, 0, none⟩)]) → (∀ x, v'.ownBlock = some x → (Value.slice ao k cap).ownBlock = some x ∨ W.heap.size ≤ x) →
          IsBench (w3.setCell ⟨w.heap.size, 3, none⟩ v') w.heap.size w.heap.size v' (hs ++ [(wr.heap.size, pvd)]) (firstK b (k + 1)) ∧ Below w.heap.size w (w3.setCell ⟨w.heap.size, 3, none⟩ v') ∧ w3.cell? ⟨w.heap.size, 3, none⟩ = some (.slice ao k cap) ∧ w3.frozen? ⟨w.heap.size, 3, none⟩ = false) := fun W w3 v' pvd hd hW hg ho hp => by
        have hF : Fr (fun x => (Value.slice ao k cap).ownBlock = some x) wr w3 := (Fr.of_below hW).trans (Fr.grown hg)
        have hFg := Fr.grown hg
        have hnd : ∀ x, ofD wr.heap.size pvd x → ¬ (Value.slice ao k cap).ownBlock = some x := fun x hx e => by
          have h1 := (HH.out.row.lt _ e).2
          have h2 := hd.ges x hx
          omega
        refine ⟨?_, ?_, cell_fr (cell_fr hc4 (Fr.of_below (S := fun _ => False) hW) id) hFg HH.out.ap, there_frozen (there_fr (there_fr HH.out.there (Fr.of_below (S := fun _ => False) hW) id) hFg HH.out.ap) (by decide)⟩
        · rw [← HSUC.out]
          refine HH.out.add ((hd.fr hFg hnd).low (Nat.le_of_lt hgl)) (fun x hx => hd.ges x hx) ?_ hF (fun x hx => ?_)
          · rw [HLN.out, List.map_append]
            exact ho
          · rcases hp x hx with h9 | h9
            · exact .inl h9
            · exact .inr ⟨by have := hW.size; omega, fun e => by have := hd.lts x e; omega⟩
        · have h1 := Fr.below HB1.out hF HB1.out.size (fun x hx => (HH.out.row.lt x hx).1)
          exact Fr.below h1 (Fr.cell ⟨w.heap.size, 3, none⟩ v') h1.size (fun x hx => by rw [hx]; exact Nat.le_refl _)
      have hHeld0 : True := trivial
      refine wp_region_held_drew (S := fun _ => True) (by kernel_rfl) trivial (fun hHeld => ?_)
      refine wpAnyH_take (i := 0) (oi := _) (v := ?_) rfl (by kernel_rfl) (by kernel_rfl) (by kernel_rfl) (fun _ _ _ h => h) (Or.inl ⟨by rfl, ?_⟩) (by assumption) ?_
      rotate_left
      · intro w hSw
        go_simp
        try with_reducible rfl
      try simp only [Act.put, List.getElem_toArray, List.getElem_cons_zero, List.getElem_cons_succ, List.setIfInBounds_toArray, List.set_cons_zero, List.set_cons_succ]
      refine wpAnyH_take (i := 1) (oi := _) (v := ?_) rfl (by kernel_rfl) (by kernel_rfl) (by kernel_rfl) (fun _ _ _ h => h) (Or.inl ⟨by rfl, ?_⟩) (by assumption) ?_
      rotate_left
      · intro w hSw
        go_simp
        try with_reducible rfl
      try simp only [Act.put, List.getElem_toArray, List.getElem_cons_zero, List.getElem_cons_succ, List.setIfInBounds_toArray, List.set_cons_zero, List.set_cons_succ]
      refine wpAnyH_take (i := 2) (oi := _) (v := ?_) rfl (by kernel_rfl) (by kernel_rfl) (by kernel_rfl) (fun _ _ _ h => h) (Or.inl ⟨by rfl, ?_⟩) (by assumption) ?_
      rotate_left
      · intro w hSw
        go_simp
        try with_reducible rfl
      try simp only [Act.put, List.getElem_toArray, List.getElem_cons_zero, List.getElem_cons_succ, List.setIfInBounds_toArray, List.set_cons_zero, List.set_cons_succ]
      refine wpAnyH_take (i := 3) (oi := _) (v := ?_) rfl (by kernel_rfl) (by kernel_rfl) (by kernel_rfl) (fun _ _ _ h => h) (Or.inl ⟨by rfl, ?_⟩) (by assumption) ?_
      rotate_left
      · intro w hSw
        go_simp
        try with_reducible rfl
      try simp only [Act.put, List.getElem_toArray, List.getElem_cons_zero, List.getElem_cons_succ, List.setIfInBounds_toArray, List.set_cons_zero, List.set_cons_succ]
      refine wpAnyH_take (i := 5) (oi := _) (v := ?_) rfl (by kernel_rfl) (by kernel_rfl) (by kernel_rfl) (fun _ _ _ h => h) (Or.inl ⟨by rfl, ?_⟩) (by assumption) ?_
      rotate_left
      · intro w hSw
        go_simp
        try with_reducible rfl
      try simp only [Act.put, List.getElem_toArray, List.getElem_cons_zero, List.getElem_cons_succ, List.setIfInBounds_toArray, List.set_cons_zero, List.set_cons_succ]
      refine wpAnyH_ready (rs := [4, 6]) (by kernel_rfl) (by simp) ?_
      refine AllReadyH.cons (o := _) rfl (fun K hK => ?_) (AllReadyH.cons (o := _) rfl (fun K hK => ?_) AllReadyH.nil)
      · go_simp
        refine hK.out _ _ trivial (fun hHeld => ?_)
        clear hK K
        try simp only [Act.put, List.getElem_toArray, List.getElem_cons_zero, List.getElem_cons_succ, List.setIfInBounds_toArray, List.set_cons_zero, List.set_cons_succ]
        refine wpAnyH_ready (rs := [6]) (by kernel_rfl) (by simp) ?_
        refine AllReadyH.cons (o := _) rfl (fun K hK => ?_) AllReadyH.nil
        go_simp
        refine Calls.mono (dclone_any _ _ _ _ _ (HDK.out _ (by iterate 6 try (first | assumption | exact belR _ | apply belDr | apply belAlloc))) HDS.out) ?_
        rintro e w2 ⟨pvd, rfl, D2, b2⟩
        have hB2 : Below wr.heap.size wr w2 := (by first | exact b2 | exact belT (belDr (belR _)) b2)
        have hcA : w2.cell? ⟨w.heap.size, 3, none⟩ = some (.slice ao k cap) := cell_fr hc4 (Fr.of_below (S := fun _ => False) hB2) id
        have hcB : ∀ ob, (w2.alloc ob).cell? ⟨w.heap.size, 3, none⟩ = some (.slice ao k cap) := fun ob => cell_fr hcA (Fr.alloc (S := fun _ => False) _ _) id
        have hD2 : IsDisk w2 wr.heap.size wr.heap.size pvd dk := D2
        try go_simp
        refine hK.out _ _ trivial (fun hHeld => ?_)
        clear hK K
        try simp only [Act.put, List.getElem_toArray, List.getElem_cons_zero, List.getElem_cons_succ, List.setIfInBounds_toArray, List.set_cons_zero, List.set_cons_succ]
        refine wpAnyH_ready (rs := [7]) (by kernel_rfl) (by simp) ?_
        refine AllReadyH.cons (o := _) rfl (fun K hK => ?_) AllReadyH.nil
        go_simp
        refine hK.out _ _ trivial (fun hHeld => ?_)
        clear hK K
        try simp only [Act.put, List.getElem_toArray, List.getElem_cons_zero, List.getElem_cons_succ, List.setIfInBounds_toArray, List.set_cons_zero, List.set_cons_succ]
        refine wpAnyH_ready (rs := [8]) (by kernel_rfl) (by simp) ?_
        refine AllReadyH.cons (o := _) rfl (fun K hK => ?_) AllReadyH.nil
        rw [if_pos (by rfl)]
        refine wp_append_pl _ _ 43 rfl w.heap.size 100 j0 _ 1 8 hu65 hj hy0 hy1 hy2 rfl (by decide) (.slice ao k cap) k (hs.map hptr) rfl (HOWN.out _ (by iterate 6 try (first | assumption | exact belR _ | apply belDr | apply belAlloc))) ⟨w2.heap.size, 0, none⟩ 1 1 [.pointer (some ⟨wr.heap.size, 0, none⟩)] rfl rfl (by first | exact news_at rfl rfl | exact fun j u hu => news_at (W := w2) rfl rfl j u hu) (fun u hu => by rw [List.mem_singleton.1 hu]; rfl) (by simp only [maxLen]; omega) (by omega) (by first | (have := hB2.size; simp; omega)) ?_
        intro v' w3 ho hg hpl
        obtain ⟨ao', cap', rfl⟩ := row_shape ho
        obtain ⟨HQ, hQB, hcS, hzS⟩ := HADD.out _ w3 _ pvd (hD2.up (by iterate 6 try (first | exact belR _ | apply belDr | apply belAlloc))) (by iterate 6 try (first | assumption | exact belR _ | apply belDr | apply belAlloc)) hg ho hpl
        have HQ := Lib.hid HQ
        refine hK.out _ _ trivial (fun hHeld => ?_)
        clear hK K
        try simp only [Act.put, List.getElem_toArray, List.getElem_cons_zero, List.getElem_cons_succ, List.setIfInBounds_toArray, List.set_cons_zero, List.set_cons_succ]
        refine wpAnyH_take (i := 9) (oi := _) (v := ?_) rfl (by kernel_rfl) (by kernel_rfl) (by kernel_rfl) (fun _ _ _ h => h) (Or.inl ⟨by rfl, ?_⟩) (by assumption) ?_
        rotate_left
        · intro w hSw
          go_simp
          try with_reducible rfl
        try simp only [Act.put, List.getElem_toArray, List.getElem_cons_zero, List.getElem_cons_succ, List.setIfInBounds_toArray, List.set_cons_zero, List.set_cons_succ]
        refine wpAnyH_take (i := 10) (oi := _) (v := ?_) rfl (by kernel_rfl) (by kernel_rfl) (by kernel_rfl) (fun _ _ _ h => h) (Or.inl ⟨by rfl, ?_⟩) (by assumption) ?_
        rotate_left
        · intro w hSw
          go_simp
          try with_reducible rfl
        try simp only [Act.put, List.getElem_toArray, List.getElem_cons_zero, List.getElem_cons_succ, List.setIfInBounds_toArray, List.set_cons_zero, List.set_cons_succ]
        refine wpAnyH_ready (rs := [11]) (by kernel_rfl) (by simp) ?_
        refine AllReadyH.cons (o := _) rfl (fun K hK => ?_) AllReadyH.nil
        go_simp
        refine hK.out _ _ trivial (fun hHeld => ?_)
        clear hK K
        refine wpAnyH_done (by kernel_rfl) ?_ _
        go_wp2
        go_roundw
        case rel => exact ⟨k + 1, by omega, by go_num, Lib.hid ⟨_, _, HQ.out, hQB⟩⟩
        case measure => simp [intOf]; omega
      · go_simp
        refine Calls.mono (dclone_any _ _ _ _ _ (HDK.out _ (by iterate 6 try (first | assumption | exact belR _ | apply belDr | apply belAlloc))) HDS.out) ?_
        rintro e w2 ⟨pvd, rfl, D2, b2⟩
        have hB2 : Below wr.heap.size wr w2 := (by first | exact b2 | exact belT (belDr (belR _)) b2)
        have hcA : w2.cell? ⟨w.heap.size, 3, none⟩ = some (.slice ao k cap) := cell_fr hc4 (Fr.of_below (S := fun _ => False) hB2) id
        have hcB : ∀ ob, (w2.alloc ob).cell? ⟨w.heap.size, 3, none⟩ = some (.slice ao k cap) := fun ob => cell_fr hcA (Fr.alloc (S := fun _ => False) _ _) id
        have hD2 : IsDisk w2 wr.heap.size wr.heap.size pvd dk := D2
        try go_simp
        refine hK.out _ _ trivial (fun hHeld => ?_)
        clear hK K
        try simp only [Act.put, List.getElem_toArray, List.getElem_cons_zero, List.getElem_cons_succ, List.setIfInBounds_toArray, List.set_cons_zero, List.set_cons_succ]
        refine wpAnyH_ready (rs := [4, 7]) (by kernel_rfl) (by simp) ?_
        refine AllReadyH.cons (o := _) rfl (fun K hK => ?_) (AllReadyH.cons (o := _) rfl (fun K hK => ?_) AllReadyH.nil)
        · go_simp
          refine hK.out _ _ trivial (fun hHeld => ?_)
          clear hK K
          try simp only [Act.put, List.getElem_toArray, List.getElem_cons_zero, List.getElem_cons_succ, List.setIfInBounds_toArray, List.set_cons_zero, List.set_cons_succ]
          refine wpAnyH_ready (rs := [7]) (by kernel_rfl) (by simp) ?_
          refine AllReadyH.cons (o := _) rfl (fun K hK => ?_) AllReadyH.nil
          go_simp
          refine hK.out _ _ trivial (fun hHeld => ?_)
          clear hK K
          try simp only [Act.put, List.getElem_toArray, List.getElem_cons_zero, List.getElem_cons_succ, List.setIfInBounds_toArray, List.set_cons_zero, List.set_cons_succ]
          refine wpAnyH_ready (rs := [8]) (by kernel_rfl) (by simp) ?_
          refine AllReadyH.cons (o := _) rfl (fun K hK => ?_) AllReadyH.nil
          rw [if_pos (by rfl)]
          refine wp_append_pl _ _ 43 rfl w.heap.size 100 j0 _ 1 8 hu65 hj hy0 hy1 hy2 rfl (by decide) (.slice ao k cap) k (hs.map hptr) rfl (HOWN.out _ (by iterate 6 try (first | assumption | exact belR _ | apply belDr | apply belAlloc))) ⟨w2.heap.size, 0, none⟩ 1 1 [.pointer (some ⟨wr.heap.size, 0, none⟩)] rfl rfl (by first | exact news_at rfl rfl | exact fun j u hu => news_at (W := w2) rfl rfl j u hu) (fun u hu => by rw [List.mem_singleton.1 hu]; rfl) (by simp only [maxLen]; omega) (by omega) (by first | (have := hB2.size; simp; omega)) ?_
          intro v' w3 ho hg hpl
          obtain ⟨ao', cap', rfl⟩ := row_shape ho
          obtain ⟨HQ, hQB, hcS, hzS⟩ := HADD.out _ w3 _ pvd (hD2.up (by iterate 6 try (first | exact belR _ | apply belDr | apply belAlloc))) (by iterate 6 try (first | assumption | exact belR _ | apply belDr | apply belAlloc)) hg ho hpl
          have HQ := Lib.hid HQ
          refine hK.out _ _ trivial (fun hHeld => ?_)
          clear hK K
          try simp only [Act.put, List.getElem_toArray, List.getElem_cons_zero, List.getElem_cons_succ, List.setIfInBounds_toArray, List.set_cons_zero, List.set_cons_succ]
          refine wpAnyH_take (i := 9) (oi := _) (v := ?_) rfl (by kernel_rfl) (by kernel_rfl) (by kernel_rfl) (fun _ _ _ h => h) (Or.inl ⟨by rfl, ?_⟩) (by assumption) ?_
          rotate_left
          · intro w hSw
            go_simp
            try with_reducible rfl
          try simp only [Act.put, List.getElem_toArray, List.getElem_cons_zero, List.getElem_cons_succ, List.setIfInBounds_toArray, List.set_cons_zero, List.set_cons_succ]
          refine wpAnyH_take (i := 10) (oi := _) (v := ?_) rfl (by kernel_rfl) (by kernel_rfl) (by kernel_rfl) (fun _ _ _ h => h) (Or.inl ⟨by rfl, ?_⟩) (by assumption) ?_
          rotate_left
          · intro w hSw
            go_simp
            try with_reducible rfl
          try simp only [Act.put, List.getElem_toArray, List.getElem_cons_zero, List.getElem_cons_succ, List.setIfInBounds_toArray, List.set_cons_zero, List.set_cons_succ]
          refine wpAnyH_ready (rs := [11]) (by kernel_rfl) (by simp) ?_
          refine AllReadyH.cons (o := _) rfl (fun K hK => ?_) AllReadyH.nil
          go_simp
          refine hK.out _ _ trivial (fun hHeld => ?_)
          clear hK K
          refine wpAnyH_done (by kernel_rfl) ?_ _
          go_wp2
          go_roundw
          case rel => exact ⟨k + 1, by omega, by go_num, Lib.hid ⟨_, _, HQ.out, hQB⟩⟩
          case measure => simp [intOf]; omega
        · go_simp
          refine hK.out _ _ trivial (fun hHeld => ?_)
          clear hK K
          try simp only [Act.put, List.getElem_toArray, List.getElem_cons_zero, List.getElem_cons_succ, List.setIfInBounds_toArray, List.set_cons_zero, List.set_cons_succ]
          refine wpAnyH_ready (rs := [4]) (by kernel_rfl) (by simp) ?_
          refine AllReadyH.cons (o := _) rfl (fun K hK => ?_) AllReadyH.nil
          go_simp
          refine hK.out _ _ trivial (fun hHeld => ?_)
          clear hK K
          try simp only [Act.put, List.getElem_toArray, List.getElem_cons_zero, List.getElem_cons_succ, List.setIfInBounds_toArray, List.set_cons_zero, List.set_cons_succ]
          refine wpAnyH_ready (rs := [8]) (by kernel_rfl) (by simp) ?_
          refine AllReadyH.cons (o := _) rfl (fun K hK => ?_) AllReadyH.nil
          rw [if_pos (by rfl)]
          refine wp_append_pl _ _ 43 rfl w.heap.size 100 j0 _ 1 8 hu65 hj hy0 hy1 hy2 rfl (by decide) (.slice ao k cap) k (hs.map hptr) rfl (HOWN.out _ (by iterate 6 try (first | assumption | exact belR _ | apply belDr | apply belAlloc))) ⟨w2.heap.size, 0, none⟩ 1 1 [.pointer (some ⟨wr.heap.size, 0, none⟩)] rfl rfl (by first | exact news_at rfl rfl | exact fun j u hu => news_at (W := w2) rfl rfl j u hu) (fun u hu => by rw [List.mem_singleton.1 hu]; rfl) (by simp only [maxLen]; omega) (by omega) (by first | (have := hB2.size; simp; omega)) ?_
          intro v' w3 ho hg hpl
          obtain ⟨ao', cap', rfl⟩ := row_shape ho
          obtain ⟨HQ, hQB, hcS, hzS⟩ := HADD.out _ w3 _ pvd (hD2.up (by iterate 6 try (first | exact belR _ | apply belDr | apply belAlloc))) (by iterate 6 try (first | assumption | exact belR _ | apply belDr | apply belAlloc)) hg ho hpl
          have HQ := Lib.hid HQ
          refine hK.out _ _ trivial (fun hHeld => ?_)
          clear hK K
          try simp only [Act.put, List.getElem_toArray, List.getElem_cons_zero, List.getElem_cons_succ, List.setIfInBounds_toArray, List.set_cons_zero, List.set_cons_succ]
          refine wpAnyH_take (i := 9) (oi := _) (v := ?_) rfl (by kernel_rfl) (by kernel_rfl) (by kernel_rfl) (fun _ _ _ h => h) (Or.inl ⟨by rfl, ?_⟩) (by assumption) ?_
          rotate_left
          · intro w hSw
            go_simp
            try with_reducible rfl
          try simp only [Act.put, List.getElem_toArray, List.getElem_cons_zero, List.getElem_cons_succ, List.setIfInBounds_toArray, List.set_cons_zero, List.set_cons_succ]
          refine wpAnyH_take (i := 10) (oi := _) (v := ?_) rfl (by kernel_rfl) (by kernel_rfl) (by kernel_rfl) (fun _ _ _ h => h) (Or.inl ⟨by rfl, ?_⟩) (by assumption) ?_
          rotate_left
          · intro w hSw
            go_simp
            try with_reducible rfl
          try simp only [Act.put, List.getElem_toArray, List.getElem_cons_zero, List.getElem_cons_succ, List.setIfInBounds_toArray, List.set_cons_zero, List.set_cons_succ]
          refine wpAnyH_ready (rs := [11]) (by kernel_rfl) (by simp) ?_
          refine AllReadyH.cons (o := _) rfl (fun K hK => ?_) AllReadyH.nil
          go_simp
          refine hK.out _ _ trivial (fun hHeld => ?_)
          clear hK K
          refine wpAnyH_done (by kernel_rfl) ?_ _
          go_wp2
          go_roundw
          case rel => exact ⟨k + 1, by omega, by go_num, Lib.hid ⟨_, _, HQ.out, hQB⟩⟩
          case measure => simp [intOf]; omega
    · have hke : k = m := by omega
      have he : firstK b k = b := by
        unfold firstK
        rw [hke, HM.out, List.take_length]
      rw [he] at H1
      clear hke he
      go_wp2
      go_ret
      exact ⟨rfl, ⟨lv, hs, H1⟩, B1⟩
end Go.Proofs.Ytenjpldinnbcbaa
