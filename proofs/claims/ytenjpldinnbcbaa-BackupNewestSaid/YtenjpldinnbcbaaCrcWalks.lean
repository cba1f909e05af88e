/- The walks of package crc and of the reference's sums: each function answers what the plain sums say. -/
import Derived.Test.YtenjpldinnbcbaaCrc
import Derived.Test.YtenjpldinnbcbaaKeep
namespace Go.Proofs.Ytenjpldinnbcbaa
open Go.RowKit C
set_option linter.unusedVariables false
set_option linter.unusedSimpArgs false
set_option maxRecDepth 100000
set_option maxHeartbeats 1000000

theorem crcF_snoc (x : Nat) (l : List Nat) (c : Nat) : crcF x (l ++ [c]) = up (crcF x l) c := by simp [crcF]
theorem sum_any (v : Value) (ls : List (List Nat)) (w : World) (h : Parts w v ls) :
    Calls Try.prog 122 #[v] w fun e w' => e = .returned (.int .u32 (crc ls : Nat)) ∧ w = w' := by
  have hbytes := Lib.hid h.bytes
  obtain ⟨ao, cap, cs, rfl, h1, h2, h0, hA, hl, hB⟩ := h
  have HL := Lib.hid hl
  have HB := Lib.hid hB
  unfold maxLen at h2
  clear hl hB h0
  go_enter Try.func122, Try.ntmps122
  go_wp2
  go_loop [3, 11] (fun x i => ∃ k x' : Nat, k ≤ ls.length ∧ x = .int .u32 x' ∧ i = .int .i64 k ∧ x' < 4294967296 ∧ Hid (crcF 4294967295 (ls.take k).flatten = x')) (fun _ i => ls.length - (intOf i).toNat)
  case atStart => exact ⟨0, 4294967295, Nat.zero_le _, rfl, rfl, by decide, Lib.hid rfl⟩
  case round =>
    obtain ⟨k, x, hk, rfl, rfl, hx, HX⟩ := hrel
    by_cases hlt : k < ls.length
    · obtain ⟨b, off, c, rfl, hc, hck⟩ := hA.cell (k := k) (by rw [HL.out]; exact hlt)
      obtain ⟨c', hc', hby⟩ := HB.out k hlt
      have e : c = c' := Option.some.inj (hck.symm.trans hc')
      subst e
      obtain ⟨l, hl⟩ : ∃ l, l = ls.getD k [] := ⟨_, rfl⟩
      rw [← hl] at hby
      have hlk : ls[k]? = some l := by rw [hl]; exact getD_get _ hlt
      have HK := Lib.hid hlk
      obtain ⟨ao', cap', rfl, g1, g2, g0, g3, gA⟩ := hby
      unfold maxLen at g2
      clear hck hc' hl hlk g0
      go_wp2
      go_loop [3, 17] (fun x i => ∃ j x' : Nat, j ≤ l.length ∧ x = .int .u32 x' ∧ i = .int .i64 j ∧ x' < 4294967296 ∧ Hid (crcF 4294967295 ((ls.take k).flatten ++ l.take j) = x')) (fun _ i => l.length - (intOf i).toNat)
      case atStart => exact ⟨0, x, Nat.zero_le _, rfl, rfl, hx, Lib.hid (by simpa using HX.out)⟩
      case round =>
        obtain ⟨j, y, hj, rfl, rfl, hy, HY⟩ := hrel
        by_cases hjt : j < l.length
        · obtain ⟨b', off', d, rfl, hd, hdk, hd8⟩ := gA.byte g3 hjt
          have hxc := bx32 (a := y) (b := d) hy (by omega)
          have hy2 : y ^^^ d < 4294967296 := xor32 hy (by omega)
          go_wp2
          go_loop [3, 25] (fun x i => ∃ n x' : Nat, n ≤ 8 ∧ x = .int .u32 x' ∧ i = .int .i64 n ∧ x' < 4294967296 ∧ Hid (st (8 - n) x' = up y d)) (fun _ i => 8 - (intOf i).toNat)
          case atStart => exact ⟨0, y ^^^ d, by decide, rfl, rfl, hy2, Lib.hid rfl⟩
          case round =>
            obtain ⟨n, z, hn, rfl, rfl, hz, HZ⟩ := hrel
            clear hxc
            by_cases hnt : n < 8
            · have hand := band1_32 hz
              have hzp := bx32 (a := z / 2) (b := 2197175160) (by omega) (by decide)
              have e2 : ((z / 2 : Nat) : Int) = (z : Int) / 2 := by omega
              rw [e2, show ((2197175160 : Nat) : Int) = 2197175160 from rfl] at hzp
              have hz2 := st1_lt hz
              have HN : Hid (st (8 - (n + 1)) (st1 z) = up y d) := by
                have := HZ.out
                rw [show 8 - n = (8 - (n + 1)) + 1 by omega] at this
                exact this
              clear HZ e2
              rcases Nat.mod_two_eq_zero_or_one z with hm | hm
              · have H1 : Hid (st1 z = z / 2) := Lib.hid (by unfold st1; rw [if_neg (by omega)])
                rw [hm] at hand
                clear hm
                go_wp2
                go_round
                case rel => exact ⟨n + 1, st1 z, by omega, by rw [H1.out]; go_num, by go_num, hz2, HN⟩
                case measure => simp [intOf]; omega
              · have H1 : Hid (st1 z = (z / 2) ^^^ 2197175160) := Lib.hid (by unfold st1; rw [if_pos hm])
                rw [hm] at hand
                clear hm
                go_wp2
                go_round
                case rel => exact ⟨n + 1, st1 z, by omega, by rw [H1.out], by go_num, hz2, HN⟩
                case measure => simp [intOf]; omega
            · have hn8 : n = 8 := by omega
              have HU : Hid (z = up y d) := Lib.hid (by have := HZ.out; rw [hn8] at this; exact this)
              clear hn8
              go_wp2
              go_round
              case rel => exact ⟨j + 1, z, by omega, rfl, by go_num, hz, Lib.hid (by rw [take_succ_get hdk.out, ← List.append_assoc, crcF_snoc, HY.out, HU.out])⟩
              case measure => simp [intOf]; omega
        · have hje : l.take j = l := List.take_of_length_le (by omega)
          have HJ := Lib.hid hje
          clear hje
          go_wp2
          go_round
          case rel => exact ⟨k + 1, y, by omega, rfl, by go_num, hy, Lib.hid (by rw [take_succ_get HK.out, List.flatten_append]; simpa [HJ.out] using HY.out)⟩
          case measure => simp [intOf]; omega
    · have hxo := bx32 (a := x) (b := 4294967295) hx (by decide)
      go_wp2
      go_ret
      refine ⟨ret_u32 ?_, rfl⟩
      have hke : ls.take k = ls := List.take_of_length_le (by omega)
      have := HX.out
      rw [hke] at this
      unfold crc
      rw [this]
      exact hxo

theorem parts_info : (Try.prog.info? 48).map (fun i => (i.zero, i.size, i.bytes)) = some (some (.slice none 0 0), 1, 24) := by kernel_rfl
/-- the cells of a slice of slices are each one cell -/
theorem cells_one {w : World} {cs : List Value} {ls : List (List Nat)} (hl : cs.length = ls.length) (hb : ∀ i, i < ls.length → ∃ c, cs[i]? = some c ∧ Byt w c (ls.getD i [])) : ∀ u ∈ cs, u.oneCell' = true := by
  intro u hu
  obtain ⟨i, hi, e⟩ := List.getElem_of_mem hu
  obtain ⟨c, hc, hby⟩ := hb i (by omega)
  obtain ⟨ao, cap, rfl, _⟩ := hby
  have := List.getElem?_eq_getElem hi
  rw [hc] at this
  rw [← e, ← Option.some.inj this]
  rfl
theorem cons_cells {w w1 : World} {v : Value} {l : List Nat} {cs : List Value} {ls : List (List Nat)} (hv : Byt w v l) (hb : ∀ i, i < ls.length → ∃ c, cs[i]? = some c ∧ Byt w c (ls.getD i [])) (h1 : Below w.heap.size w w1) :
    ∀ i, i < (l :: ls).length → ∃ c, ([v] ++ cs)[i]? = some c ∧ Byt w1 c ((l :: ls).getD i []) := by
  intro i hi
  cases i with
  | zero => exact ⟨v, rfl, hv.below h1 (Nat.le_refl _)⟩
  | succ i =>
    obtain ⟨c, hc, hby⟩ := hb i (by simpa using hi)
    exact ⟨c, by simpa using hc, by simpa [List.getD] using hby.below h1 (Nat.le_refl _)⟩
/-- the parts behind a first one, in new memory -/
theorem csum_any (v pv : Value) (l : List Nat) (ls : List (List Nat)) (w : World) (h : Byt w v l) (hl : l.length = 32) (hp : Parts w pv ls) (hn : ls.length ≤ 1048576) :
    Calls Try.prog 114 #[v, pv] w fun e w' => e = .returned (.int .u32 (crc (l.take 28 :: ls) : Nat)) ∧ Below w.heap.size w w' := by
  have hby := h
  obtain ⟨ao, cap, rfl, h1, h2, h0, h3, hA⟩ := h
  obtain ⟨b, off, rfl, hlt⟩ := hA.some_of (by simp [hl])
  rw [hl] at hby h1 ⊢
  have ht := Lib.hid (hby.take (k := 28) (c := 28) (by omega) (by omega) (by simp [maxLen]))
  obtain ⟨ao', cap', cs, rfl, g1, g2, g0, gA, gl, gB⟩ := hp
  have GL := Lib.hid gl
  have GB := Lib.hid gB
  have hone := Lib.hid (cells_one gl gB)
  obtain ⟨i0, hi, hz0, hz1, hz2⟩ := info_parts parts_info
  have hcap : 28 ≤ cap := by omega
  clear hl gl gB hby h0 h2 h3 hA
  go_enter Try.func114, Try.ntmps114
  go_wp2_with (first
    | (at_builtin; refine wpList_append_at rfl _ _ 31 rfl w.heap.size 48 i0 (.slice none 0 0) 1 24 Try.underlying31 hi hz0 hz1 hz2 rfl (by decide) _ _ _ rfl (World.ownsRow_lit w #[.slice (some ⟨b, off, none⟩) 28 28] 1 (Nat.le_refl _) (by simp [maxLen]) rfl) _ _ _ cs rfl g0 g1 (by rw [GL.out]; omega) (gA.below (belAlloc (Below.refl _ _) _) (Nat.le_refl _)) hone.out (by simp [maxLen]; omega) (by omega) (by simp) ?_; intro v' w1 hown hgrow _)
    | (go_at_call 122; have hb1 : Below w.heap.size w w1 := (belAlloc (Below.refl _ _) _).grown hgrow (by simp) (fun k hk => by cases hk; exact Nat.le_refl _); have hp1 : Parts w1 v' (l.take 28 :: ls) := Parts.of_own hown (by simp [GL.out]) (cons_cells ht.out GB.out hb1); refine (sum_any _ _ _ hp1).mono ?_; rintro e w' ⟨rfl, rfl⟩))
  go_ret
  exact ⟨rfl, hb1⟩

theorem seal_no (v pv : Value) (l : List Nat) (w : World) (h : Byt w v l) (hl : l.length ≠ 32) :
    Calls Try.prog 95 #[v, pv] w fun e w' => e = .returned (.bool false) ∧ w = w' := by
  obtain ⟨ao, cap, rfl, h1, h2, h0, h3, hA⟩ := h
  have hb : ((l.length : Int) != 32) = true := by rw [bne_iff_ne]; omega
  clear h0
  go_enter Try.func95, Try.ntmps95
  go_wp2
  go_ret
  exact ⟨rfl, rfl⟩
theorem Below.own {w w1 : World} {base n size : Nat} {e : TypeId} {v : Value} {xs : List Value} {B : Nat} (h : w.ownsRow base e size v n xs) (hb : Below B w w1) (hB : w.heap.size ≤ B) : w1.ownsRow base e size v n xs := by
  refine ⟨h.1, ?_⟩
  rcases h.2 with h2 | ⟨g, cap, cur, rfl, h3, hg, r⟩
  · exact .inl h2
  · exact .inr ⟨g, cap, cur, rfl, h3, by rw [hb.block g (Nat.lt_of_lt_of_le (lt_of_block hg) hB)]; exact hg, r⟩
theorem sealed_set {l : List Nat} (ls : List (List Nat)) (hl : l.length = 32) (a b c d : Nat) (h : four (crc (l.take 28 :: ls)) = [a, b, c, d]) :
    ((((l.map u8v).set 28 (u8v a)).set 29 (u8v b)).set 30 (u8v c)).set 31 (u8v d) = (sealed l ls).map u8v := by
  unfold sealed
  rw [h]
  obtain ⟨x1, x2, x3, x4, hd⟩ : ∃ x1 x2 x3 x4, l.drop 28 = [x1, x2, x3, x4] := by
    match hm : l.drop 28, (show (l.drop 28).length = 4 by simp [hl]) with
    | [x1, x2, x3, x4], _ => exact ⟨_, _, _, _, rfl⟩
  have hp : (l.take 28).length = 28 := by simp [hl]
  have e : l.map u8v = (l.take 28).map u8v ++ [u8v x1, u8v x2, u8v x3, u8v x4] := by
    conv => lhs; rw [← List.take_append_drop 28 l, hd, List.map_append]
    rfl
  rw [e]
  generalize l.take 28 = p at hp
  simp [List.set_append, hp]
theorem cell_ex {w : World} {base : Nat} {e : TypeId} {size g n cap : Nat} {xs : List Value} (h : w.ownsRow base e size (.slice (some ⟨g, 0, none⟩) n cap) n xs) (j : Nat) (hj : j < n * size) : ∃ v, w.cell? ⟨g, j, none⟩ = some v := by
  rw [h.cellAt j hj]
  exact ⟨_, List.getElem?_eq_getElem (by rw [h.1]; exact hj)⟩
theorem seal_yes (v pv : Value) (l : List Nat) (ls : List (List Nat)) (w : World) (base : Nat) (h : Own w base v l) (hl : l.length = 32) (hp : Parts w pv ls) (hn : ls.length ≤ 1048576) :
    Calls Try.prog 95 #[v, pv] w fun e w' => e = .returned (.bool true) ∧ Own w' base v (sealed l ls) ∧ w.grownBy w' v.ownBlock := by
  have hby := Lib.hid h.byt
  have hps := Lib.hid hp
  have hown := h.2
  have hl8 := h.1
  have hsl : Hid (∀ c ∈ sealed l ls, c < 256) := sealed_byte hl8
  have hown2 := hown.2
  rcases hown2 with ⟨_, hz⟩ | ⟨g, cap, cur, rfl, hbase, hg, hc1, hc2, hcs, htake⟩
  · omega
  have hlt := lt_of_block hg
  obtain ⟨x, hx⟩ : ∃ x, x = crc (l.take 28 :: ls) := ⟨_, rfl⟩
  have hx32 : x < 4294967296 := hx ▸ crc_lt (by
    intro m hm c hc
    cases hm with
    | head => exact hl8 c (List.mem_of_mem_take hc)
    | tail _ hm => exact hps.out.bytes m hm c hc)
  have hsum : ∀ w1 : World, w1 = w → Calls Try.prog 114 #[.slice (some ⟨g, 0, none⟩) 32 cap, pv] w1 fun e w' => e = .returned (.int .u32 (x : Nat)) ∧ Below w.heap.size w w' := by
    intro w1 e
    subst e
    have := csum_any _ _ l ls w1 hby.out hl hps.out hn
    rw [hl] at this
    exact hx ▸ this
  have HS := Lib.hid hsum
  have HX := Lib.hid hx
  rw [hl] at hown ⊢
  have HL := Lib.hid hl
  have HO := Lib.hid hown
  clear hl hown hg hcs htake h hp hsum hx
  go_enter Try.func95, Try.ntmps95
  go_wp2_with (go_at_call 114; refine (HS.out _ rfl).mono ?_; rintro e w1 ⟨rfl, hb1⟩)
  have HO1 := Lib.hid (Below.own HO.out hb1 (Nat.le_refl _))
  obtain ⟨o28, c28⟩ := cell_ex HO1.out 28 (by decide)
  obtain ⟨o29, c29⟩ := cell_ex HO1.out 29 (by decide)
  obtain ⟨o30, c30⟩ := cell_ex HO1.out 30 (by decide)
  obtain ⟨o31, c31⟩ := cell_ex HO1.out 31 (by decide)
  have f28 := HO1.out.frozenAt 28
  have f29 := HO1.out.frozenAt 29
  have f30 := HO1.out.frozenAt 30
  have f31 := HO1.out.frozenAt 31
  refine wp_loop_rounds 5 ?_
  iterate 4
    rw [rounds_succ]
    go_wp2
  rw [rounds_succ]
  go_wp2
  go_ret
  have e1 : Value.int IntKind.u8 ((x : Int) / 16777216) = u8v (x / 16777216 % 256) := by unfold u8v; congr 1; omega
  have e2 : Value.int IntKind.u8 ((x : Int) / 65536 % 256) = u8v (x / 65536 % 256) := by unfold u8v; congr 1
  have e3 : Value.int IntKind.u8 ((x : Int) / 256 % 256) = u8v (x / 256 % 256) := by unfold u8v; congr 1
  have e4 : Value.int IntKind.u8 ((x : Int) % 256) = u8v (x % 256) := by unfold u8v; congr 1
  refine ⟨rfl, ⟨hsl.out, ?_⟩, ?_⟩
  · have o := ((((HO1.out.stored 28 (u8v (x / 16777216 % 256))).1.stored 29 (u8v (x / 65536 % 256))).1.stored 30 (u8v (x / 256 % 256))).1.stored 31 (u8v (x % 256))).1
    rw [sealed_set ls HL.out _ _ _ _ (by rw [← HX.out]; rfl)] at o
    rw [e1, e2, e3, e4, sealed_len ls HL.out]
    exact o
  · exact ⟨hb1.os, hb1.tape, hb1.output, by simpa [World.setCell] using hb1.size, fun k hk hne => by
      have hkg : k ≠ g := fun e => hne (by rw [e]; rfl)
      rw [Below.heap_setCell _ _ _ _ hkg, Below.heap_setCell _ _ _ _ hkg, Below.heap_setCell _ _ _ _ hkg, Below.heap_setCell _ _ _ _ hkg, hb1.block k hk]⟩
theorem beq_cast (a b : Nat) : (((a : Nat) : Int) == ((b : Nat) : Int)) = (a == b) := by
  by_cases h : a = b
  · subst h; simp
  · have h1 : ((a : Int) == (b : Int)) = false := by rw [beq_eq_false_iff_ne]; omega
    have h2 : (a == b) = false := by rw [beq_eq_false_iff_ne]; exact h
    rw [h1, h2]
theorem num_snoc (l : List Nat) (c : Nat) : num (l ++ [c]) = num l * 256 + c := by simp [num]
theorem foldl_lt (l : List Nat) : ∀ x : Nat, (∀ c ∈ l, c < 256) → l.foldl (fun x c => x * 256 + c) x < (x + 1) * 256 ^ l.length := by
  induction l with
  | nil => intro x _; simp
  | cons c l ih =>
    intro x hl
    have h1 := ih (x * 256 + c) (fun d hd => hl d (.tail _ hd))
    have h2 := hl c (.head _)
    have h3 : (x * 256 + c + 1) * 256 ^ l.length ≤ ((x + 1) * 256) * 256 ^ l.length := Nat.mul_le_mul_right _ (by omega)
    rw [List.length_cons, Nat.pow_succ, Nat.mul_comm (256 ^ l.length) 256, ← Nat.mul_assoc]
    exact Nat.lt_of_lt_of_le h1 h3
theorem num_lt (l : List Nat) (hl : ∀ c ∈ l, c < 256) : num l < 256 ^ l.length := by
  have := foldl_lt l 0 hl
  rwa [Nat.zero_add, Nat.one_mul] at this
end Go.Proofs.Ytenjpldinnbcbaa
