/- The law DiskOrder: a sector reads as it was written last, whatever else was written. -/
import Derived.Test.YtggljcdkiaggeaaDiskL
import Derived.Test.YtggljcdkiaggeaaMap
namespace Go.Proofs.Ytggljcdkiaggeaa
open Go.RowKit
set_option linter.unusedVariables false
set_option linter.unusedSimpArgs false
set_option maxRecDepth 100000
set_option maxHeartbeats 2000000
theorem wrapB2 (x : Int) : -9223372036854775808 ≤ wrap64 x ∧ wrap64 x ≤ 9223372036854775807 := by unfold wrap64; omega
theorem Ints.shape {w : World} {v : Value} {l : List Int} (h : Ints w v l) : ∃ ao cap, v = .slice ao l.length cap ∧ l.length ≤ cap ∧ cap ≤ 9223372036854775807 := by
  obtain ⟨ao, cap, rfl, h1, h2, _⟩ := h
  exact ⟨ao, cap, rfl, h1, h2⟩
theorem Ints.get {w : World} {ao : Option Addr} {n cap : Nat} {l : List Int} (h : Ints w (.slice ao n cap) l) {k : Nat} (hk : k < n) :
    ∃ b off x, ao = some ⟨b, off, none⟩ ∧ w.cell? ⟨b, off + k, none⟩ = some (.int .i64 x) ∧ -9223372036854775808 ≤ x ∧ x ≤ 9223372036854775807 := by
  obtain ⟨ao', cap', e, h1, h2, h0, h8, hA⟩ := h
  cases e
  obtain ⟨b, off, c, rfl, hc, hk2⟩ := hA.cell (k := k) (by simpa using hk)
  rw [List.getElem?_map, List.getElem?_eq_getElem hk] at hk2
  simp only [Option.map_some, Option.some.injEq] at hk2
  have := h8 l[k] (List.getElem_mem hk)
  exact ⟨b, off, l[k], rfl, by rw [hc, ← hk2]; rfl, this.1, this.2⟩
theorem MapI.fr {k : IntKind} {S : Nat → Prop} {w w' : World} {b : Nat} {es : List (Int × Value)} (h : MapI k w b es) (hf : Fr S w w') (hb : ¬ S b) : MapI k w' b es := h.same (hf.block b h.lt hb)
theorem MapI.up {k : IntKind} {w w' : World} {b : Nat} {es : List (Int × Value)} (h : MapI k w b es) (hf : Below w.heap.size w w') : MapI k w' b es := h.same (hf.block b h.lt)
/-- the map tells what each of the six sectors was written last as -/
def Tells (d : D.Dk) (es : List (Int × Value)) : Prop := ∀ j : Nat, j < 6 → (getM es (j : Int) = none ∧ D.look d j = List.replicate 32 0) ∨ ∃ n : Int, getM es (j : Int) = some (.int .i64 n) ∧ (-9223372036854775808 ≤ n ∧ n ≤ 9223372036854775807) ∧ D.look d j = secL n
theorem Tells.start : Tells D.blank [] := fun j hj => .inl ⟨rfl, by
  have : ∀ j, j < 6 → D.look D.blank j = List.replicate 32 0 := by decide
  exact this j hj⟩
theorem Tells.write {d : D.Dk} {es : List (Int × Value)} (h : Tells d es) (a : Nat) (n : Int) (hn : -9223372036854775808 ≤ n ∧ n ≤ 9223372036854775807) : Tells (D.write d a (secL n)) (updM es (a : Int) (.int .i64 n)) := by
  intro j hj
  rw [getM_upd]
  by_cases e : a = j
  · subst e
    rw [if_pos rfl]
    exact .inr ⟨n, rfl, hn, D.look_write_same _ _ _⟩
  · rw [if_neg (by omega), D.look_write_other d _ e]
    exact h j hj
theorem Tells.flush {d : D.Dk} {es : List (Int × Value)} (h : Tells d es) (hok : D.Ok d) : Tells (D.flush d) es := by
  intro j hj
  rw [D.look_flush hok (by omega)]
  exact h j hj
attribute [local irreducible] Go.Calls Byt Own Parts Ints MapI
theorem diskOrder_law (W : World) (av : Value) (ats : List Int) (ha : Ints W av ats) (hal : ats.length * 8 ≤ 140737488351232) (fl : Int) (hfl : -9223372036854775808 ≤ fl ∧ fl ≤ 9223372036854775807) :
    Calls Try.prog 3 #[av, .int .i64 fl] W fun e W' => e = .returned (.bool true) ∧ Below W.heap.size W W' := by
  have HAS := Lib.hid ha
  obtain ⟨aoa, capa, rfl, hr1, hr2⟩ := Ints.shape ha
  clear ha
  obtain ⟨j0, hj, hy0, hy1, hy2⟩ := info_parts uint8_info
  have hmm := @run_makeMap Try.prog
  go_enter Try.func3, Try.ntmps3
  go_wp2_with fail
  refine Calls.mono (newI W) ?_
  rintro e w1 ⟨rfl, D1, b1⟩
  go_wp2_with fail
  clear hmm
  have M1 := MapI.made .i64 w1
  have HR0 : Hid (∃ pv d es, IsDisk (w1.alloc (.map #[] 0)) W.heap.size W.heap.size pv d ∧ d.f = false ∧ d.p.length ≤ 0 ∧ MapI .i64 (w1.alloc (.map #[] 0)) w1.heap.size es ∧ Tells d es ∧ ¬ ofD W.heap.size pv w1.heap.size ∧ Below W.heap.size W (w1.alloc (.map #[] 0))) :=
    ⟨_, D.blank, [], D1.up (belA1 (belR _)), rfl, Nat.le_refl _, M1, Tells.start, (fun h => by rcases h with h | h; have := D1.lt; omega; cases h), belA1 b1⟩
  have hg1 : W.heap.size < w1.heap.size := D1.lt
  clear D1 M1
  go_loopw [7] (fun i w' => ∃ k : Nat, k ≤ 40 ∧ k ≤ ats.length ∧ i = .int .i64 k ∧ Hid (∃ pv d es, IsDisk w' W.heap.size W.heap.size pv d ∧ d.f = false ∧ d.p.length ≤ k ∧ MapI .i64 w' w1.heap.size es ∧ Tells d es ∧ ¬ ofD W.heap.size pv w1.heap.size ∧ Below W.heap.size W w')) (fun i _ => 40 - (intOf i).toNat)
  case atStart => exact ⟨0, by omega, by omega, rfl, HR0⟩
  case round =>
    clear HR0
    obtain ⟨k, hk40, hkl, rfl, HR⟩ := hrel
    by_cases hlt : k < ats.length ∧ k < 40
    · obtain ⟨hlt1, hlt2⟩ := hlt
      obtain ⟨pv, d, es, D1, hf, hpl, M1, T1, A1, B1⟩ := HR.out
      obtain ⟨bA, offA, z, rfl, hz, hz1, hz2⟩ := Ints.get (Ints.up HAS.out B1) hlt1
      go_wp2_with fail
      refine Calls.mono (within_any z 6 _ (by decide) hz1 hz2) ?_
      rintro e w2 ⟨rfl, rfl⟩
      have hA0 := withinI_ge z 6
      have hA1 := withinI_lt z 6 (by decide)
      obtain ⟨A, hA⟩ : ∃ A, A = withinI z 6 := ⟨_, rfl⟩
      rw [← hA] at hA0 hA1 ⊢
      clear hA
      obtain ⟨a, rfl⟩ := Int.eq_ofNat_of_zero_le hA0
      go_wp2_with fail
      have hn3 : -9223372036854775808 ≤ 3 * (k : Int) + 1 ∧ 3 * (k : Int) + 1 ≤ 9223372036854775807 := by omega
      refine Calls.mono (sector_any _ wr hn3) ?_
      rintro e w3 ⟨v3, rfl, O3, b3⟩
      have HF := Lib.hid hf
      have HPL := Lib.hid hpl
      clear hf hpl
      go_wp2_with fail
      refine Calls.mono (writeI w3 _ _ _ _ _ v3 _ (D1.up b3) O3.byt HF.out hA0 (by omega) (secL_len _) (Nat.le_trans B1.size b3.size) (by have := HPL.out; omega)) ?_
      rintro e w4 ⟨rfl, pv4, D4, F4, p4⟩
      have M4 := (M1.up b3).fr F4 A1
      have T4 := T1.write a _ hn3
      have A4 : ¬ ofD W.heap.size pv4 w1.heap.size := by
        have hm := MapI.lt (M1.up b3)
        intro h
        rcases h with h | h
        · exact A1 (.inl h)
        · rcases p4 _ h with h1 | h1
          · exact A1 (.inr h1)
          · omega
      have B4 := F4.low (belT B1 b3) (belT B1 b3).size (fun b hb => (D1.up b3).ges b hb)
      have HTD : Hid (∃ d2, d2 = D.write d ((a : Int)).toNat (secL (3 * (k : Int) + 1)) ∧ d2.f = false ∧ d2.p.length ≤ k + 1 ∧ Tells d2 (updM es (a : Int) (.int .i64 (3 * (k : Int) + 1)))) := ⟨_, rfl, HF.out, by simp [D.write]; exact HPL.out, T4⟩
      obtain ⟨d2, hd2, hf2, hpl2, T2⟩ := HTD.out
      rw [← hd2] at D4
      have HF2 := Lib.hid hf2
      have HPL2 := Lib.hid hpl2
      clear hd2 hf2 hpl2 HTD T4 M1 T1 D1 A1 F4 p4 O3
      go_wp2_with (first
        | (refine wpList_storeI rfl _ _ _ 25 rfl _ _ .i64 Try.underlying25 Try.underlying3 w1.heap.size es (a : Int) _ rfl rfl rfl M4 ?_; intro w5 M5 g5 hs5)
        | fail)
      have D5 := D4.fr (Fr.grown g5) (fun b hb e => A4 (by cases e; exact hb))
      have B5 := Fr.below B4 (Fr.grown g5) B4.size (fun b hb => by cases hb; omega)
      refine Calls.mono (flush_any _ _ _ _ _ D5 HF2.out) ?_
      rintro e w6 ⟨rfl, D6, F6⟩
      have HS1 : Hid (∃ pv d es, IsDisk w6 W.heap.size W.heap.size pv d ∧ d.f = false ∧ d.p.length ≤ k + 1 ∧ MapI .i64 w6 w1.heap.size es ∧ Tells d es ∧ ¬ ofD W.heap.size pv w1.heap.size ∧ Below W.heap.size W w6) :=
        ⟨_, _, _, D6, HF2.out, Nat.zero_le _, M5.fr F6 (by omega), T2.flush D5.ok, (fun h => by rcases h with h | h; omega; cases h), (F6.obj (pv := pv4)).low B5 B5.size (fun b hb => D5.ges b hb)⟩
      clear D4 D5 D6 F6 M4 M5 T2 A4 B4 B5 HF2 HPL2 g5 HR
      go_wp2_with fail
      rotate_left
      have D5 := D4.fr (Fr.grown g5) (fun b hb e => A4 (by cases e; exact hb))
      have B5 := Fr.below B4 (Fr.grown g5) B4.size (fun b hb => by cases hb; omega)
      have HS1 : Hid (∃ pv d es, IsDisk w5 W.heap.size W.heap.size pv d ∧ d.f = false ∧ d.p.length ≤ k + 1 ∧ MapI .i64 w5 w1.heap.size es ∧ Tells d es ∧ ¬ ofD W.heap.size pv w1.heap.size ∧ Below W.heap.size W w5) :=
        ⟨_, _, _, D5, HF2.out, HPL2.out, M5, T2, A4, B5⟩
      clear D4 D5 M4 M5 T2 A4 B4 B5 HF2 HPL2 g5 HR
      all_goals
        have HZ : Hid (∀ w : World, (zeroValue 3).run Try.prog w = .ok (.int .i64 0) w) := fun w => by kernel_rfl
        go_loopw [9] (fun i w' => ∃ j : Nat, j ≤ 6 ∧ i = .int .i64 j ∧ Hid (∃ pv d es, IsDisk w' W.heap.size W.heap.size pv d ∧ d.f = false ∧ d.p.length ≤ k + 1 ∧ MapI .i64 w' w1.heap.size es ∧ Tells d es ∧ ¬ ofD W.heap.size pv w1.heap.size ∧ Below W.heap.size W w')) (fun i _ => 6 - (intOf i).toNat)
        case atStart => exact ⟨0, by omega, rfl, HS1⟩
        case round =>
          clear HS1
          obtain ⟨j, hj6, rfl, HR2⟩ := hrel
          obtain ⟨pv', d', es', D7, hf7, hp7, M7, T7, A7, B7⟩ := HR2.out
          have HF7 := Lib.hid hf7
          have HP7 := Lib.hid hp7
          clear hf7 hp7
          by_cases hlj : j < 6
          · rcases T7 j hlj with ⟨hm1, hm2⟩ | ⟨n, hm1, hm2, hm3⟩
            all_goals have HM1 := Lib.hid hm1
            · have HM2 := Lib.hid hm2
              clear hm1 hm2
              go_wp2_with (first
                  | (at_make; go_loud (refine wpList_make_bytes rfl _ _ 29 rfl j0 Try.underlying29 hj hy0 hy1 hy2 _ _ _ _ 32 rfl rfl rfl rfl (by decide) ?_); intro w7 O7 b7)
                  | (refine wpList_lookI_ok rfl _ _ 25 rfl _ _ .i64 Try.underlying25 Try.underlying3 (.int .i64 0) (HZ.out _) w1.heap.size es' (j : Int) rfl rfl (M7.up b7) ?_; rw [HM1.out])
                  | fail)
              have c7 := b7
              have O8 := O7
              refine Calls.mono (readI _ _ _ _ _ (j : Int) (D7.up c7) HF7.out (by omega) (by omega)) ?_
              rw [show ((j : Int)).toNat = j from rfl, HM2.out]
              rintro e w9 ⟨v9, rfl, O9, b9⟩
              go_wp2_with fail
              refine Calls.mono (same_any _ _ _ _ _ O9.byt (O8.up b9).byt) ?_
              rw [decide_eq_true rfl]
              rintro e w10 ⟨rfl, d10⟩
              have c10 := belT (belT c7 b9) (d10.below _)
              go_wp2_with fail
              go_roundw
              case rel => exact ⟨j + 1, by omega, by go_num, Lib.hid ⟨pv', d', es', D7.up c10, HF7.out, HP7.out, M7.up c10, T7, A7, belT B7 c10⟩⟩
              case measure => simp [intOf]; omega
            · have HM3 := Lib.hid hm3
              clear hm1 hm3
              go_wp2_with (first
                  | (at_make; go_loud (refine wpList_make_bytes rfl _ _ 29 rfl j0 Try.underlying29 hj hy0 hy1 hy2 _ _ _ _ 32 rfl rfl rfl rfl (by decide) ?_); intro w7 O7 b7)
                  | (refine wpList_lookI_ok rfl _ _ 25 rfl _ _ .i64 Try.underlying25 Try.underlying3 (.int .i64 0) (HZ.out _) w1.heap.size es' (j : Int) rfl rfl (M7.up b7) ?_; rw [HM1.out])
                  | fail)
              refine Calls.mono (sector_any n _ hm2) ?_
              rintro e w8 ⟨v8, rfl, O8, b8⟩
              have c7 := belT b7 b8
              go_wp2_with fail
              refine Calls.mono (readI _ _ _ _ _ (j : Int) (D7.up c7) HF7.out (by omega) (by omega)) ?_
              rw [show ((j : Int)).toNat = j from rfl, HM3.out]
              rintro e w9 ⟨v9, rfl, O9, b9⟩
              go_wp2_with fail
              refine Calls.mono (same_any _ _ _ _ _ O9.byt (O8.up b9).byt) ?_
              rw [decide_eq_true rfl]
              rintro e w10 ⟨rfl, d10⟩
              have c10 := belT (belT c7 b9) (d10.below _)
              go_wp2_with fail
              go_roundw
              case rel => exact ⟨j + 1, by omega, by go_num, Lib.hid ⟨pv', d', es', D7.up c10, HF7.out, HP7.out, M7.up c10, T7, A7, belT B7 c10⟩⟩
              case measure => simp [intOf]; omega
          · have h6 : j = 6 := by omega
            clear h6
            go_wp2_with fail
            go_roundw
            case rel => exact ⟨k + 1, by omega, by omega, by go_num, HR2⟩
            case measure => simp [intOf]; omega
    · obtain ⟨pv, d, es, D1, hf, hpl, M1, T1, A1, B1⟩ := HR.out
      clear hf hpl
      by_cases hl1 : k < ats.length
      · have hl2 : ¬ k < 40 := fun h => hlt ⟨hl1, h⟩
        clear hlt
        go_wp2_with fail
        refine Calls.mono (wakes_any _) ?_
        rintro e w7 ⟨rfl, b7⟩
        go_wp2
        go_ret
        exact ⟨rfl, belT B1 b7⟩
      · clear hlt
        go_wp2_with fail
        refine Calls.mono (wakes_any _) ?_
        rintro e w7 ⟨rfl, b7⟩
        go_wp2
        go_ret
        exact ⟨rfl, belT B1 b7⟩
end Go.Proofs.Ytggljcdkiaggeaa
