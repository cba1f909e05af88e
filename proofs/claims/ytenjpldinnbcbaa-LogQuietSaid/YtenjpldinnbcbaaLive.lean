/- Truths that are owned; wattleplay.Live. -/
import Derived.Test.YtenjpldinnbcbaaBkA
import Derived.Test.YtenjpldinnbcbaaKeep
import Derived.Test.YtenjpldinnbcbaaRowD
namespace Go.Proofs.Ytenjpldinnbcbaa
open Go.RowKit
set_option linter.unusedVariables false
set_option linter.unusedSimpArgs false
set_option maxRecDepth 100000
set_option maxHeartbeats 2000000

def OwnT (w : World) (base : Nat) (v : Value) (l : List Bool) : Prop := w.ownsRow base 4 1 v l.length (l.map boolv)
theorem OwnT.bools {w : World} {base : Nat} {v : Value} {l : List Bool} (h : OwnT w base v l) : Bools w v l := by
  have h0 : w.ownsRow base 4 1 v l.length (l.map boolv) := h
  rcases h0.2 with ⟨rfl, hn⟩ | ⟨g, cap, cur, rfl, _, hg, h1, h2, _, _⟩
  · have : l = [] := List.eq_nil_of_length_eq_zero hn
    subst this
    exact ⟨none, 0, rfl, Nat.le_refl _, by simp [maxLen], fun _ => rfl, .inl rfl⟩
  · exact ⟨_, cap, rfl, h1, h2, (fun h => by cases h), At.of_own h0⟩
theorem OwnT.ge {w : World} {base : Nat} {v : Value} {l : List Bool} (h : OwnT w base v l) : ∀ g, v.ownBlock = some g → base ≤ g := fun g hg => (World.ownsRow.lt h g hg).1
theorem OwnT.lts {w : World} {base : Nat} {v : Value} {l : List Bool} (h : OwnT w base v l) : ∀ g, v.ownBlock = some g → g < w.heap.size := fun g hg => (World.ownsRow.lt h g hg).2
theorem OwnT.up {w w1 : World} {base : Nat} {v : Value} {l : List Bool} (h : OwnT w base v l) (hb : Below w.heap.size w w1) : OwnT w1 base v l := row_up h hb
theorem OwnT.ba {w : World} {base : Nat} {v : Value} {l : List Bool} (h : OwnT w base v l) {S : Nat → Prop} (hS : ∀ y, S y → y < base) : BA S w v l := ⟨h.bools, fun _ y hy hs => by have := h.ge y hy; have := hS y hs; omega⟩
/-- truths written out in the text -/
theorem OwnT.lit (w : World) (cs : Array Value) (l : List Bool) {n g : Nat} (hg : g = w.heap.size) (hn : n = cs.size) (hl : cs.toList = l.map boolv) (hm : l.length ≤ 1048576) : OwnT (w.alloc (.cells cs 4)) w.heap.size (.slice (some ⟨g, 0, none⟩) n n) l := by
  subst hg; subst hn
  have e : cs.size = l.length := by rw [← Array.length_toList, hl, List.length_map]
  have := World.ownsRow_lit (base := w.heap.size) (e := 4) (size := 1) w cs cs.size (Nat.le_refl _) (by simp only [maxLen]; omega) (by simp)
  rw [hl] at this
  show World.ownsRow _ _ _ _ _ _ _
  rw [← e]
  exact this
theorem OwnT.cellAt {w : World} {base g n cap : Nat} {l : List Bool} (h : OwnT w base (.slice (some ⟨g, 0, none⟩) n cap) l) {k : Nat} (hk : k < l.length) : ∃ x, w.cell? ⟨g, k, none⟩ = some (.bool x) ∧ w.frozen? ⟨g, k, none⟩ = false := by
  have hn : n = l.length := by
    rcases h.2 with ⟨e, _⟩ | ⟨g', cap', cur, e, _⟩
    · cases e
    · cases e; rfl
  subst hn
  refine ⟨l[k], ?_, World.ownsRow.frozenAt h k⟩
  rw [World.ownsRow.cellAt h k (by omega), List.getElem?_map, List.getElem?_eq_getElem hk]
  rfl
theorem OwnT.store {w : World} {base g n cap : Nat} {l : List Bool} (h : OwnT w base (.slice (some ⟨g, 0, none⟩) n cap) l) (k : Nat) (x : Bool) :
    OwnT (w.setCell ⟨g, k, none⟩ (.bool x)) base (.slice (some ⟨g, 0, none⟩) n cap) (l.set k x) ∧ w.grownBy (w.setCell ⟨g, k, none⟩ (.bool x)) (some g) := by
  have hn : n = l.length := by
    rcases h.2 with ⟨e, _⟩ | ⟨g', cap', cur, e, _⟩
    · cases e
    · cases e; rfl
  subst hn
  obtain ⟨h1, h2⟩ := World.ownsRow.stored h k (.bool x)
  refine ⟨?_, h2⟩
  show World.ownsRow _ _ _ _ _ _ _
  rw [List.length_set, List.map_set]
  exact h1
theorem bool_info : (Try.prog.info? 4).map (fun i => (i.zero, i.size, i.bytes)) = some (some (.bool false), 1, 1) := by kernel_rfl
theorem wpList_make_bools {P : Program} {w : World} {ops : Array Oper} {rest : List Oper} {o : Oper} {a : Act} {Q : Exit → Act → World → Prop}
    (hg : o.guard = none) (l c : Operand) (t : TypeId) (hop : o.op = Op.makeSlice t l c)
    (i : TypeInfo) (h1 : P.underlying t = some (.slice 4)) (h2 : P.info? 4 = some i) (h3 : i.zero = some (.bool false)) (h4 : i.size = 1) (h5 : i.bytes = 1)
    (kl kc : IntKind) (L C : Int) (n : Nat) (hl : a.eval l = .int kl L) (hc : a.eval c = .int kc C) (hL : L = (n : Int)) (hC : C = (n : Int)) (hn : n ≤ 100000)
    (hK : ∀ w', OwnT w' w.heap.size (.slice (some ⟨w.heap.size, 0, none⟩) n n) (List.replicate n false) → Below w.heap.size w w' → wpList P ops Q rest (a.put o.dst (.slice (some ⟨w.heap.size, 0, none⟩) n n)) w') :
    wpList P ops Q (o :: rest) a w := by
  refine wpList_make_full w hg l c t hop w.heap.size 4 i (.bool false) 1 h1 h2 h3 h4 kl kc L C n hl hc hL hC (by rw [h5]; omega) (by simp only [maxLen]; omega) (Nat.le_refl _) ?_
  intro w' ho hgr
  have e : (madeCells (Value.cells (.bool false)) (n * 1)).toList = List.replicate n (.bool false) := by
    rw [Nat.mul_one]; exact madeCells_one _ _
  rw [e] at ho
  refine hK w' ?_ (grown_below hgr)
  show World.ownsRow _ _ _ _ _ _ _
  rw [List.length_replicate, List.map_replicate]
  exact ho
theorem wrap64_in (x : Int) : -9223372036854775808 ≤ wrap64 x ∧ wrap64 x ≤ 9223372036854775807 := by unfold wrap64; omega
attribute [local irreducible] Go.Calls OwnT
theorem live_any (x : Int) (d : Nat) (w : World) (h1 : 1 ≤ d) (h8 : d ≤ 8) (hx : -9223372036854775808 ≤ x ∧ x ≤ 9223372036854775807) :
    Calls Try.prog 16 #[.int .i64 x, .int .i64 d] w fun e w' => ∃ v l, e = .returned v ∧ l.length = d ∧ OwnT w' w.heap.size v l ∧ Below w.heap.size w w' := by
  obtain ⟨j0, hj, hy0, hy1, hy2⟩ := info_parts bool_info
  have HX := Lib.hid hx
  have HD := Lib.hid (And.intro h1 h8)
  have hd0 : (0 : Int) < (d : Int) := by omega
  have hd0N : 0 < d := by omega
  have hdP : ((d : Int) > 0) = True := by simpa using hd0N
  have W3 := Lib.hid (fun w => within_any x 3 w (by decide) hx.1 hx.2)
  have W9 := Lib.hid (fun w => within_any x 9 w (by decide) hx.1 hx.2)
  clear h1 h8 hx
  go_enter Try.func16, Try.ntmps16
  go_wp2_with (first
    | (at_make; go_loud (refine wpList_make_bools rfl _ _ 28 rfl j0 Try.underlying28 hj hy0 hy1 hy2 _ _ _ _ d rfl rfl rfl rfl (by have := HD.out; omega) ?_); intro w1 O1 b1)
    | fail)
  have HO1 : Hid (∃ l, OwnT w1 w.heap.size (.slice (some ⟨w.heap.size, 0, none⟩) d d) l ∧ l.length = d) := ⟨_, O1, by simp⟩
  clear O1
  go_loopw [11] (fun i X => ∃ k : Nat, k ≤ d ∧ i = .int .i64 k ∧ Hid (∃ l, OwnT X w.heap.size (.slice (some ⟨w.heap.size, 0, none⟩) d d) l ∧ l.length = d) ∧ Below w.heap.size w X) (fun i _ => d - (intOf i).toNat)
  case atStart => exact ⟨0, Nat.zero_le _, rfl, HO1, b1⟩
  case round =>
    obtain ⟨k, hk, rfl, hO, BX⟩ := hrel
    obtain ⟨l, Ol, hl⟩ := hO.out
    by_cases hlt : k < d
    · obtain ⟨y, hcy, hfy⟩ := Ol.cellAt (k := k) (by omega)
      have HST := Lib.hid (Ol.store k true)
      have HLL := Lib.hid hl
      have hkI : (k : Int) < (d : Int) := by omega
      have hk0 : (0 : Int) ≤ (k : Int) := by omega
      have hk1' : IntKind.i64.wrap ((k : Int) + 1) = ((k + 1 : Nat) : Int) := by have := HD.out; rw [IntKind.wrap_i64]; omega
      have HLT := Lib.hid hlt
      clear Ol hl hlt hO
      go_wp2
      go_roundw
      case rel => exact ⟨k + 1, HLT.out, by go_num, ⟨_, HST.out.1, by rw [List.length_set]; exact HLL.out⟩, BX.grown HST.out.2 BX.size (fun g hg => by cases hg; exact Nat.le_refl _)⟩
      case measure => have := HLT.out; simp [intOf]; omega
    · have hkI : ¬ (k : Int) < (d : Int) := by omega
      have hjB : decide ((k : Int) < (d : Int)) = false := decide_eq_false hkI
      have hjP : ((k : Int) < (d : Int)) = False := eq_false hkI
      clear Ol hl hlt
      have W27 := Lib.hid (fun w => within_any (wrap64 (x.tdiv 27)) d w (by have := HD.out; omega) (wrap64_in _).1 (wrap64_in _).2)
      have WT3 := Lib.hid (fun w => within_any (wrap64 (x.tdiv 3)) d w (by have := HD.out; omega) (wrap64_in _).1 (wrap64_in _).2)
      go_wp2_with fail
      refine Calls.mono (W3.out _) ?_
      rintro r w5 ⟨rfl, rfl⟩
      obtain ⟨m3, hm3⟩ : ∃ m, m = withinI x 3 := ⟨_, rfl⟩
      rw [← hm3]
      clear hm3
      by_cases h3 : m3 > 0
      · have HW := Lib.hid (WT3.out wr)
        obtain ⟨i3, hi3⟩ : ∃ i : Nat, (i : Int) = withinI (wrap64 (x.tdiv 3)) d := ⟨(withinI (wrap64 (x.tdiv 3)) d).toNat, by have := withinI_ge (wrap64 (x.tdiv 3)) d; omega⟩
        have hi3d : i3 < d := by have := withinI_lt (wrap64 (x.tdiv 3)) d (by omega); omega
        rw [← hi3] at HW
        obtain ⟨l, Ol, hl⟩ := hO.out
        obtain ⟨y, hcy, hfy⟩ := Ol.cellAt (k := i3) (by omega)
        obtain ⟨O3, g3⟩ := Ol.store i3 false
        have HO3 : Hid (∃ l, OwnT (wr.setCell ⟨w.heap.size, i3, none⟩ (.bool false)) w.heap.size (.slice (some ⟨w.heap.size, 0, none⟩) d d) l ∧ l.length = d) := ⟨_, O3, by rw [List.length_set]; exact hl⟩
        have B3 : Below w.heap.size w (wr.setCell ⟨w.heap.size, i3, none⟩ (.bool false)) := BX.grown g3 BX.size (fun g hg => by cases hg; exact Nat.le_refl _)
        have hkI3 : (i3 : Int) < (d : Int) := by omega
        have hk03 : (0 : Int) ≤ (i3 : Int) := by omega
        clear Ol hl hi3 hi3d O3 g3 hO
        go_wp2_with fail
        refine Calls.mono HW.out ?_
        rintro r w6 ⟨rfl, rfl⟩
        go_wp2_with fail
        refine Calls.mono (W9.out _) ?_
        rintro r w5 ⟨rfl, rfl⟩
        obtain ⟨m9, hm9⟩ : ∃ m, m = withinI x 9 := ⟨_, rfl⟩
        rw [← hm9]
        clear hm9
        by_cases h9 : m9 = 8
        · subst h9
          have HW := Lib.hid (W27.out (wr.setCell ⟨w.heap.size, i3, none⟩ (.bool false)))
          obtain ⟨i9, hi9⟩ : ∃ i : Nat, (i : Int) = withinI (wrap64 (x.tdiv 27)) d := ⟨(withinI (wrap64 (x.tdiv 27)) d).toNat, by have := withinI_ge (wrap64 (x.tdiv 27)) d; omega⟩
          have hi9d : i9 < d := by have := withinI_lt (wrap64 (x.tdiv 27)) d (by omega); omega
          rw [← hi9] at HW
          obtain ⟨l, Ol, hl⟩ := HO3.out
          obtain ⟨y, hcy, hfy⟩ := Ol.cellAt (k := i9) (by omega)
          have HST := Lib.hid (Ol.store i9 false)
          have HLL := Lib.hid hl
          have hkI9 : (i9 : Int) < (d : Int) := by omega
          have hk09 : (0 : Int) ≤ (i9 : Int) := by omega
          clear Ol hl hi9 hi9d
          go_wp2_with fail
          refine Calls.mono HW.out ?_
          rintro r w6 ⟨rfl, rfl⟩
          go_wp2
          go_ret
          exact ⟨_, _, rfl, by rw [List.length_set]; exact HLL.out, HST.out.1, B3.grown HST.out.2 B3.size (fun g hg => by cases hg; exact Nat.le_refl _)⟩
        · have hb9 : (m9 == 8) = false := by rw [beq_eq_false_iff_ne]; exact h9
          clear h9
          go_wp2
          go_ret
          obtain ⟨l, Ol, hl⟩ := HO3.out
          exact ⟨_, _, rfl, hl, Ol, B3⟩
      · go_wp2_with fail
        refine Calls.mono (W9.out _) ?_
        rintro r w5 ⟨rfl, rfl⟩
        obtain ⟨m9, hm9⟩ : ∃ m, m = withinI x 9 := ⟨_, rfl⟩
        rw [← hm9]
        clear hm9
        by_cases h9 : m9 = 8
        · subst h9
          have HW := Lib.hid (W27.out wr)
          obtain ⟨i9, hi9⟩ : ∃ i : Nat, (i : Int) = withinI (wrap64 (x.tdiv 27)) d := ⟨(withinI (wrap64 (x.tdiv 27)) d).toNat, by have := withinI_ge (wrap64 (x.tdiv 27)) d; omega⟩
          have hi9d : i9 < d := by have := withinI_lt (wrap64 (x.tdiv 27)) d (by omega); omega
          rw [← hi9] at HW
          obtain ⟨l, Ol, hl⟩ := hO.out
          obtain ⟨y, hcy, hfy⟩ := Ol.cellAt (k := i9) (by omega)
          have HST := Lib.hid (Ol.store i9 false)
          have HLL := Lib.hid hl
          have hkI9 : (i9 : Int) < (d : Int) := by omega
          have hk09 : (0 : Int) ≤ (i9 : Int) := by omega
          clear Ol hl hi9 hi9d
          go_wp2_with fail
          refine Calls.mono HW.out ?_
          rintro r w6 ⟨rfl, rfl⟩
          go_wp2
          go_ret
          exact ⟨_, _, rfl, by rw [List.length_set]; exact HLL.out, HST.out.1, BX.grown HST.out.2 BX.size (fun g hg => by cases hg; exact Nat.le_refl _)⟩
        · have hb9 : (m9 == 8) = false := by rw [beq_eq_false_iff_ne]; exact h9
          clear h9
          go_wp2
          go_ret
          obtain ⟨l, Ol, hl⟩ := hO.out
          exact ⟨_, _, rfl, hl, Ol, BX⟩
end Go.Proofs.Ytenjpldinnbcbaa
