/- The walks of the reference's number, DecodeSuper. -/
import Derived.Test.YtgnnkglmlopldaaSupD
import Derived.Test.YtgnnkglmlopldaaSupRE
import Derived.Deep.QuietTactic
import Derived.BigQuiet
namespace Go.Proofs.Ytgnnkglmlopldaa
open Go.RowKit C
set_option linter.unusedVariables false
set_option linter.unusedSimpArgs false
set_option maxRecDepth 100000
set_option maxHeartbeats 8000000

theorem bor64g {a b i : Nat} (hb : b < 2 ^ i) (ha : a / 2 ^ i * 2 ^ i = a) (hlt : a + b < 9223372036854775808) : bits .or .i64 (a : Int) (b : Int) = ((a + b : Nat) : Int) := by
  show IntKind.i64.wrap ((BitVec.ofInt 64 (a : Int) ||| BitVec.ofInt 64 (b : Int)).toNat : Int) = _
  simp only [BitVec.ofInt_natCast, IntKind.wrap_i64, BitVec.toNat_or, BitVec.toNat_ofNat]
  rw [Nat.mod_eq_of_lt (show a < 2 ^ 64 by omega), Nat.mod_eq_of_lt (show b < 2 ^ 64 by omega)]
  have : a ||| b = a + b := by
    have := Nat.shiftLeft_add_eq_or_of_lt (b := b) (i := i) hb (a / 2 ^ i)
    rw [Nat.shiftLeft_eq, ha] at this
    exact this.symm
  rw [this]; omega
theorem num4 (a b c d : Nat) : num [a, b, c, d] = a * 16777216 + b * 65536 + c * 256 + d := by simp [num]; omega
theorem number_any (ao : Option Addr) (n cap : Nat) (l : List Nat) (w : World) (h : Byt w (.slice ao n cap) l) (h4 : 4 ≤ n) (hn : n ≤ 1048576) :
    Calls Try.prog 56 #[.slice ao n cap] w fun e w' => e = .returned (.int .i64 (num (l.take 4) : Nat)) ∧ Below w.heap.size w w' := by
  obtain ⟨b, off, x0, rfl, k0, hk0, x08⟩ := h.get (k := 0) (by omega)
  obtain ⟨b', off', x1, e, k1, hk1, x18⟩ := h.get (k := 1) (by omega)
  cases e
  obtain ⟨b', off', x2, e, k2, hk2, x28⟩ := h.get (k := 2) (by omega)
  cases e
  obtain ⟨b', off', x3, e, k3, hk3, x38⟩ := h.get (k := 3) (by omega)
  cases e
  have hm : l.take 4 = [x0, x1, x2, x3] := by
    rw [take_succ_get hk3.out, take_succ_get hk2.out, take_succ_get hk1.out, take_succ_get hk0.out]; rfl
  obtain ⟨Y, hY⟩ : ∃ Y, Y = x0 * 16777216 + x1 * 65536 := ⟨_, rfl⟩
  obtain ⟨Z, hZ⟩ : ∃ Z, Z = Y + x2 * 256 := ⟨_, rfl⟩
  obtain ⟨X, hX⟩ : ∃ X, X = Z + x3 := ⟨_, rfl⟩
  have HM : Hid ((num (l.take 4) : Nat) = X) := by show _ = _; rw [hm, num4, hX, hZ, hY]
  rw [Nat.add_zero] at k0
  clear hm h
  have hlt := World.block_lt_of_cell? _ _ k0
  have HK : Hid (∀ W, Below w.heap.size w W → W.cell? ⟨b, off, none⟩ = some (.int .u8 (x0 : Nat)) ∧ W.cell? ⟨b, off + 1, none⟩ = some (.int .u8 (x1 : Nat)) ∧ W.cell? ⟨b, off + 2, none⟩ = some (.int .u8 (x2 : Nat)) ∧ W.cell? ⟨b, off + 3, none⟩ = some (.int .u8 (x3 : Nat))) := by
    intro W hW
    rw [hW.cell hlt, hW.cell (p := ⟨b, off + 1, none⟩) hlt, hW.cell (p := ⟨b, off + 2, none⟩) hlt, hW.cell (p := ⟨b, off + 3, none⟩) hlt]
    exact ⟨k0, k1, k2, k3⟩
  have g0 : 0 < n := by omega
  have g1 : (1 : Int) < (n : Int) := by omega
  have g2 : (2 : Int) < (n : Int) := by omega
  have g3 : (3 : Int) < (n : Int) := by omega
  have o1 : bits .or .i64 ((x0 : Int) * 16777216) ((x1 : Int) * 65536) = (Y : Int) := by
    rw [show (x0 : Int) * 16777216 = ((x0 * 16777216 : Nat) : Int) by omega, show (x1 : Int) * 65536 = ((x1 * 65536 : Nat) : Int) by omega, hY]
    exact bor64g (i := 24) (by omega) (by omega) (by omega)
  have o2 : bits .or .i64 (Y : Int) ((x2 : Int) * 256) = (Z : Int) := by
    rw [show (x2 : Int) * 256 = ((x2 * 256 : Nat) : Int) by omega, hZ]
    exact bor64g (i := 16) (by omega) (by omega) (by omega)
  have o3 : bits .or .i64 (Z : Int) (x3 : Int) = (X : Int) := by
    rw [hX]
    exact bor64g (i := 8) (by omega) (by omega) (by omega)
  have y0 : IntKind.i64.wrap (x0 : Int) = (x0 : Int) := by rw [IntKind.wrap_i64]; omega
  have y1 : IntKind.i64.wrap (x1 : Int) = (x1 : Int) := by rw [IntKind.wrap_i64]; omega
  have y2 : IntKind.i64.wrap (x2 : Int) = (x2 : Int) := by rw [IntKind.wrap_i64]; omega
  have y3 : IntKind.i64.wrap (x3 : Int) = (x3 : Int) := by rw [IntKind.wrap_i64]; omega
  have z0 : IntKind.i64.wrap ((x0 : Int) * 16777216) = (x0 : Int) * 16777216 := by rw [IntKind.wrap_i64]; omega
  have z1 : IntKind.i64.wrap ((x1 : Int) * 65536) = (x1 : Int) * 65536 := by rw [IntKind.wrap_i64]; omega
  have z2 : IntKind.i64.wrap ((x2 : Int) * 256) = (x2 : Int) * 256 := by rw [IntKind.wrap_i64]; omega
  clear hX hZ hY
  go_enter Try.func56, Try.ntmps56
  go_wp2_with fail
  go_quiet (fail)
  go_wp2
  go_ret

  exact ⟨ret_i64 (by rw [HM.out]), belDN (belR _) _⟩
theorem refsuper_info : (Try.prog.info? 57).map (·.size) = some 11 := by kernel_rfl
/-- what the reference's DecodeSuper answers -/
def RDec (l : List Nat) (w : World) (e : Ending) (w' : World) : Prop := (e = if Sup.is l then .returned (.tuple #[sv (Sup.parse l), .bool true]) else .returned (.tuple #[sv Sup.zero, .bool false])) ∧ Below w.heap.size w w'
theorem is_short {l : List Nat} (hl : l.length ≠ 32) : Sup.is l = false := by unfold Sup.is; rw [decide_eq_false hl]; rfl
theorem refsdecode_short (v : Value) (l : List Nat) (w : World) (h : Byt w v l) (hl : l.length ≠ 32) :
    Calls Try.prog 30 #[v] w (RDec l w) := by
  have HI := Lib.hid (is_short hl)
  obtain ⟨ao, cap, rfl, h1, h2, h0, h3, hA⟩ := h
  have hb : ((l.length : Int) != 32) = true := by rw [bne_iff_ne]; omega
  clear h0 hl
  go_enter Try.func30, Try.ntmps30
  go_wp2
  refine bodyPost_ret (v := .tuple #[sv Sup.zero, .bool false]) (by simp [results, Try.results30, go_sem, sv, Sup.zero, Geo.zero]) rfl ⟨?_, belA1 (belR _)⟩
  rw [HI.out]; rfl
theorem refsdecode_full (v : Value) (l : List Nat) (w : World) (h : Byt w v l) (hl : l.length = 32) :
    Calls Try.prog 30 #[v] w (RDec l w) := by
  have h' := h
  obtain ⟨ao, cap, rfl, hc1, hc2⟩ := h.shapeN hl
  have get : ∀ k, k < 32 → ∃ b off, ao = some ⟨b, off, none⟩ ∧ w.cell? ⟨b, off + k, none⟩ = some (.int .u8 (l.getD k 0 : Nat)) ∧ l.getD k 0 < 256 := by
    intro k hk
    obtain ⟨b, off, x, e, hx, hkx, h8⟩ := h.get (k := k) (by omega)
    have e0 : l.getD k 0 = x := by simp [List.getD, hkx.out]
    rw [e0]
    exact ⟨b, off, e, hx, h8⟩
  obtain ⟨b, off, rfl, _⟩ := get 0 (by decide)
  have get' : ∀ k, k < 32 → w.cell? ⟨b, off + k, none⟩ = some (.int .u8 (l.getD k 0 : Nat)) ∧ l.getD k 0 < 256 := by
    intro k hk
    obtain ⟨b', off', e, hx, h8⟩ := get k hk
    cases e
    exact ⟨hx, h8⟩
  have hlt : b < w.heap.size := World.block_lt_of_cell? _ _ (get' 0 (by decide)).1
  obtain ⟨w0, hw0⟩ : ∃ w0, w0 = w.alloc (.cells (sc Sup.zero).toArray 57) := ⟨_, rfl⟩
  have X0 : Hid (Box w0 w.heap.size (sc Sup.zero)) := by rw [hw0]; exact Box.new _ _ _
  have B0 : Below w.heap.size w w0 := by rw [hw0]; exact belA1 (belR _)
  have HW0 := Lib.hid hw0
  have z0 : w0.heap.size = w.heap.size + 1 := by rw [hw0]; simp
  have Z0 := Lib.hid z0
  have HD4 : Hid (Byt w0 (.slice (some ⟨b, off + 4, none⟩) (32 - 4) (cap - 4)) (l.drop 4)) := (h'.drop (k := 4) (by decide)).up B0
  have HBY : Hid (Byt w0 (.slice (some ⟨b, off, none⟩) 32 cap) l) := h'.up B0
  have HK : Hid (∀ W, Below w0.heap.size w0 W → W.cell? ⟨b, off + 8, none⟩ = some (.int .u8 (l.getD 8 0 : Nat)) ∧ W.cell? ⟨b, off + 9, none⟩ = some (.int .u8 (l.getD 9 0 : Nat)) ∧ W.cell? ⟨b, off + 10, none⟩ = some (.int .u8 (l.getD 10 0 : Nat)) ∧ W.cell? ⟨b, off + 11, none⟩ = some (.int .u8 (l.getD 11 0 : Nat)) ∧ W.cell? ⟨b, off + 12, none⟩ = some (.int .u8 (l.getD 12 0 : Nat)) ∧ W.cell? ⟨b, off + 13, none⟩ = some (.int .u8 (l.getD 13 0 : Nat)) ∧ W.cell? ⟨b, off + 14, none⟩ = some (.int .u8 (l.getD 14 0 : Nat)) ∧ W.cell? ⟨b, off + 15, none⟩ = some (.int .u8 (l.getD 15 0 : Nat)) ∧ W.cell? ⟨b, off + 16, none⟩ = some (.int .u8 (l.getD 16 0 : Nat)) ∧ W.cell? ⟨b, off + 17, none⟩ = some (.int .u8 (l.getD 17 0 : Nat)) ∧ W.cell? ⟨b, off + 18, none⟩ = some (.int .u8 (l.getD 18 0 : Nat))) := by
    intro W hW
    have hW := belT B0 hW
    have c := fun k (hk : k < 32) => (hW.cell (p := ⟨b, off + k, none⟩) hlt).trans (get' k hk).1
    exact ⟨c 8 (by decide), c 9 (by decide), c 10 (by decide), c 11 (by decide), c 12 (by decide), c 13 (by decide), c 14 (by decide), c 15 (by decide), c 16 (by decide), c 17 (by decide), c 18 (by decide)⟩
  obtain ⟨m, hm⟩ : ∃ m, m = (l.drop 4).take 4 := ⟨_, rfl⟩
  have HN4 : Hid (num ((l.drop 4).take 4) = num m) := by show _ = _; rw [hm]
  have HP : Hid (Sup.parse l = ⟨(num m : Nat), ⟨(l.getD 8 0 : Nat), (l.getD 9 0 : Nat), (l.getD 10 0 : Nat)⟩, ⟨(l.getD 11 0 : Nat), (l.getD 12 0 : Nat), (l.getD 13 0 : Nat)⟩, l.getD 14 0 == 1, (l.getD 15 0 : Nat), (l.getD 16 0 * 256 + l.getD 17 0 : Nat), (l.getD 18 0 : Nat)⟩) := by show _ = _; rw [hm]; rfl
  have x8b := (get' 8 (by decide)).2
  have x9b := (get' 9 (by decide)).2
  have x10b := (get' 10 (by decide)).2
  have x11b := (get' 11 (by decide)).2
  have x12b := (get' 12 (by decide)).2
  have x13b := (get' 13 (by decide)).2
  have x14b := (get' 14 (by decide)).2
  have x15b := (get' 15 (by decide)).2
  have x16b := (get' 16 (by decide)).2
  have x17b := (get' 17 (by decide)).2
  have x18b := (get' 18 (by decide)).2
  have hor := bor64 (a := l.getD 16 0) (c := l.getD 17 0) (by omega) x17b
  have HL := Lib.hid hl
  have HIS : Hid (Sup.is l = ((Sup.parse l).ok && decide ((Sup.parse l).enc = l))) := by show _ = _; unfold Sup.is; rw [hl]; simp
  have HIN := Lib.hid (parse_in h'.bytes)
  have HL8 := Lib.hid h'.bytes
  clear get get' hw0 hl h h' hm z0
  generalize l.getD 8 0 = x8 at *
  generalize l.getD 9 0 = x9 at *
  generalize l.getD 10 0 = x10 at *
  generalize l.getD 11 0 = x11 at *
  generalize l.getD 12 0 = x12 at *
  generalize l.getD 13 0 = x13 at *
  generalize l.getD 14 0 = x14 at *
  generalize l.getD 15 0 = x15 at *
  generalize l.getD 16 0 = x16 at *
  generalize l.getD 17 0 = x17 at *
  generalize l.getD 18 0 = x18 at *
  have HOR := Lib.hid hor
  have k16b : IntKind.i64.wrap ((x16 : Int) * 256) = (x16 : Int) * 256 := by rw [IntKind.wrap_i64]; omega
  have n4 : ¬ cap = 4 := by omega
  have k8 : IntKind.i64.wrap (x8 : Int) = (x8 : Int) := by rw [IntKind.wrap_i64]; omega
  have k9 : IntKind.i64.wrap (x9 : Int) = (x9 : Int) := by rw [IntKind.wrap_i64]; omega
  have k10 : IntKind.i64.wrap (x10 : Int) = (x10 : Int) := by rw [IntKind.wrap_i64]; omega
  have k11 : IntKind.i64.wrap (x11 : Int) = (x11 : Int) := by rw [IntKind.wrap_i64]; omega
  have k12 : IntKind.i64.wrap (x12 : Int) = (x12 : Int) := by rw [IntKind.wrap_i64]; omega
  have k13 : IntKind.i64.wrap (x13 : Int) = (x13 : Int) := by rw [IntKind.wrap_i64]; omega
  have k15 : IntKind.i64.wrap (x15 : Int) = (x15 : Int) := by rw [IntKind.wrap_i64]; omega
  have k16 : IntKind.i64.wrap (x16 : Int) = (x16 : Int) := by rw [IntKind.wrap_i64]; omega
  have k17 : IntKind.i64.wrap (x17 : Int) = (x17 : Int) := by rw [IntKind.wrap_i64]; omega
  have k18 : IntKind.i64.wrap (x18 : Int) = (x18 : Int) := by rw [IntKind.wrap_i64]; omega
  have hne : ((32 : Int) != 32) = false := rfl
  cases hright : rightB l [] with
  | false =>
    have HIF : Hid (Sup.is l = false) := by
      show _ = _
      rw [Bool.eq_false_iff]
      intro h
      have h1 := (right_iff (ls := []) HL8.out (by simp)).2 ⟨HL.out, Sup.is_sealed h⟩
      rw [hright] at h1
      cases h1
    have HR := Lib.hid hright
    clear hright
    go_enter Try.func30, Try.ntmps30
    go_wp2_with (first
      | (go_at_call 55; rw [show w.alloc (.cells #[.int .i64 0, .int .i64 0, .int .i64 0, .int .i64 0, .int .i64 0, .int .i64 0, .int .i64 0, .bool false, .int .i64 0, .int .i64 0, .int .i64 0] 57) = w0 from HW0.out.symm]; refine Calls.mono (refright_any _ _ l [] _ HBY.out (Parts.nil _) (by simp)) ?_; rw [HR.out]; rintro e wE ⟨rfl, bE⟩; have BE : Below w.heap.size w wE := belT B0 bE; have XE := X0.out.fr (Fr.of_below (S := fun _ => False) bE) id)
      | (refine wpList_store_mid rfl 57 (.tmp 2) (.tmp 15) rfl w.heap.size 0 (sc Sup.zero).toArray rfl rfl (show World.there _ _ 0 11 from XE.there) (show _ = some 11 from refsuper_info) (sc_one _) ?_; have XF := XE.store (cs' := sc Sup.zero) rfl; have BF := Fr.below (B := w.heap.size) BE (Fr.cells _ w.heap.size 0 (sc Sup.zero)) BE.size (fun i hi => by rw [hi]; exact Nat.le_refl _); have hsame : (sc Sup.zero).toArray.toList = sc Sup.zero := rfl; rw [hsame]; clear hsame; obtain ⟨f0, f1, f2, f3, f4, f5, f6, f7, f8, f9, f10⟩ := XF.cells11; generalize World.setCells _ w.heap.size 0 (sc Sup.zero) = wF at *))
    refine bodyPost_ret (v := .tuple #[sv Sup.zero, .bool false]) (by simp [results, Try.results30, go_sem, sv, f0, f1, f2, f3, f4, f5, f6, f7, f8, f9, f10]) rfl ⟨?_, BF⟩
    rw [HIF.out]; rfl
  | true =>
    have HR := Lib.hid hright
    clear hright
    go_enter Try.func30, Try.ntmps30
    go_wp2_with (go_at_call 55; rw [show w.alloc (.cells #[.int .i64 0, .int .i64 0, .int .i64 0, .int .i64 0, .int .i64 0, .int .i64 0, .int .i64 0, .bool false, .int .i64 0, .int .i64 0, .int .i64 0] 57) = w0 from HW0.out.symm]; refine Calls.mono (refright_any _ _ l [] _ HBY.out (Parts.nil _) (by simp)) ?_; rw [HR.out]; rintro e wR ⟨rfl, bR⟩)
    go_cut [4] from 16 to 67 (fun s W => ∃ g, s = .pointer (some ⟨g, 0, none⟩) ∧ w0.heap.size ≤ g ∧ g < W.heap.size ∧ Hid (Box W g (sc ⟨(num m : Nat), ⟨x8, x9, x10⟩, ⟨x11, x12, x13⟩, x14 == 1, x15, (x16 * 256 + x17 : Nat), x18⟩)) ∧ Below w0.heap.size w0 W)
    case first =>
      refine wp_region_held_drew (S := fun W => W.cell? ⟨b, off + 8, none⟩ = some (.int .u8 (x8 : Nat)) ∧ W.cell? ⟨b, off + 9, none⟩ = some (.int .u8 (x9 : Nat)) ∧ W.cell? ⟨b, off + 10, none⟩ = some (.int .u8 (x10 : Nat)) ∧ W.cell? ⟨b, off + 11, none⟩ = some (.int .u8 (x11 : Nat)) ∧ W.cell? ⟨b, off + 12, none⟩ = some (.int .u8 (x12 : Nat)) ∧ W.cell? ⟨b, off + 13, none⟩ = some (.int .u8 (x13 : Nat)) ∧ W.cell? ⟨b, off + 14, none⟩ = some (.int .u8 (x14 : Nat)) ∧ W.cell? ⟨b, off + 15, none⟩ = some (.int .u8 (x15 : Nat)) ∧ W.cell? ⟨b, off + 16, none⟩ = some (.int .u8 (x16 : Nat)) ∧ W.cell? ⟨b, off + 17, none⟩ = some (.int .u8 (x17 : Nat)) ∧ W.cell? ⟨b, off + 18, none⟩ = some (.int .u8 (x18 : Nat))) (by kernel_rfl) (HK.out _ (by iterate 8 try (first | assumption | apply belDr | apply belAlloc | exact belR _))) (fun hHeld => ?_)
      refine wpAnyH_take (i := 0) (oi := _) (v := ?_) rfl (by kernel_rfl) (by kernel_rfl) (by kernel_rfl) (fun _ _ _ h => h) (Or.inl ⟨by rfl, ?_⟩) (by assumption) ?_
      rotate_left
      · intro w hSw
        (try dsimp only at hSw)
        go_simp
        try with_reducible rfl
      try simp only [Act.put, List.getElem_toArray, List.getElem_cons_zero, List.getElem_cons_succ, List.setIfInBounds_toArray, List.set_cons_zero, List.set_cons_succ]
      refine wpAnyH_take (i := 1) (oi := _) (v := ?_) rfl (by kernel_rfl) (by kernel_rfl) (by kernel_rfl) (fun _ _ _ h => h) (Or.inl ⟨by rfl, ?_⟩) (by assumption) ?_
      rotate_left
      · intro w hSw
        (try dsimp only at hSw)
        go_simp
        try with_reducible rfl
      try simp only [Act.put, List.getElem_toArray, List.getElem_cons_zero, List.getElem_cons_succ, List.setIfInBounds_toArray, List.set_cons_zero, List.set_cons_succ]
      refine wpAnyH_take (i := 3) (oi := _) (v := ?_) rfl (by kernel_rfl) (by kernel_rfl) (by kernel_rfl) (fun _ _ _ h => h) (Or.inl ⟨by rfl, ?_⟩) (by assumption) ?_
      rotate_left
      · intro w hSw
        (try dsimp only at hSw)
        go_simp
        try with_reducible rfl
      try simp only [Act.put, List.getElem_toArray, List.getElem_cons_zero, List.getElem_cons_succ, List.setIfInBounds_toArray, List.set_cons_zero, List.set_cons_succ]
      refine wpAnyH_take (i := 4) (oi := _) (v := ?_) rfl (by kernel_rfl) (by kernel_rfl) (by kernel_rfl) (fun _ _ _ h => h) (Or.inl ⟨by rfl, ?_⟩) (by assumption) ?_
      rotate_left
      · intro w hSw
        (try dsimp only at hSw)
        go_simp
        try with_reducible rfl
      try simp only [Act.put, List.getElem_toArray, List.getElem_cons_zero, List.getElem_cons_succ, List.setIfInBounds_toArray, List.set_cons_zero, List.set_cons_succ]
      refine wpAnyH_take (i := 5) (oi := _) (v := ?_) rfl (by kernel_rfl) (by kernel_rfl) (by kernel_rfl) (fun _ _ _ h => h) (Or.inl ⟨by rfl, ?_⟩) (by assumption) ?_
      rotate_left
      · intro w hSw
        (try dsimp only at hSw)
        go_simp
        try with_reducible rfl
      try simp only [Act.put, List.getElem_toArray, List.getElem_cons_zero, List.getElem_cons_succ, List.setIfInBounds_toArray, List.set_cons_zero, List.set_cons_succ]
      refine wpAnyH_take (i := 6) (oi := _) (v := ?_) rfl (by kernel_rfl) (by kernel_rfl) (by kernel_rfl) (fun _ _ _ h => h) (Or.inl ⟨by rfl, ?_⟩) (by assumption) ?_
      rotate_left
      · intro w hSw
        (try dsimp only at hSw)
        go_simp
        try with_reducible rfl
      try simp only [Act.put, List.getElem_toArray, List.getElem_cons_zero, List.getElem_cons_succ, List.setIfInBounds_toArray, List.set_cons_zero, List.set_cons_succ]
      refine wpAnyH_take (i := 7) (oi := _) (v := ?_) rfl (by kernel_rfl) (by kernel_rfl) (by kernel_rfl) (fun _ _ _ h => h) (Or.inl ⟨by rfl, ?_⟩) (by assumption) ?_
      rotate_left
      · intro w hSw
        (try dsimp only at hSw)
        go_simp
        try with_reducible rfl
      try simp only [Act.put, List.getElem_toArray, List.getElem_cons_zero, List.getElem_cons_succ, List.setIfInBounds_toArray, List.set_cons_zero, List.set_cons_succ]
      refine wpAnyH_take (i := 8) (oi := _) (v := ?_) rfl (by kernel_rfl) (by kernel_rfl) (by kernel_rfl) (fun _ _ _ h => h) (Or.inl ⟨by rfl, ?_⟩) (by assumption) ?_
      rotate_left
      · intro w hSw
        (try dsimp only at hSw)
        go_simp
        try with_reducible rfl
      try simp only [Act.put, List.getElem_toArray, List.getElem_cons_zero, List.getElem_cons_succ, List.setIfInBounds_toArray, List.set_cons_zero, List.set_cons_succ]
      refine wpAnyH_take (i := 9) (oi := _) (v := ?_) rfl (by kernel_rfl) (by kernel_rfl) (by kernel_rfl) (fun _ _ _ h => h) (Or.inl ⟨by rfl, ?_⟩) (by assumption) ?_
      rotate_left
      · intro w hSw
        (try dsimp only at hSw)
        go_simp
        try with_reducible rfl
      try simp only [Act.put, List.getElem_toArray, List.getElem_cons_zero, List.getElem_cons_succ, List.setIfInBounds_toArray, List.set_cons_zero, List.set_cons_succ]
      refine wpAnyH_take (i := 10) (oi := _) (v := ?_) rfl (by kernel_rfl) (by kernel_rfl) (by kernel_rfl) (fun _ _ _ h => h) (Or.inl ⟨by rfl, ?_⟩) (by assumption) ?_
      rotate_left
      · intro w hSw
        (try dsimp only at hSw)
        go_simp
        try with_reducible rfl
      try simp only [Act.put, List.getElem_toArray, List.getElem_cons_zero, List.getElem_cons_succ, List.setIfInBounds_toArray, List.set_cons_zero, List.set_cons_succ]
      refine wpAnyH_take (i := 11) (oi := _) (v := ?_) rfl (by kernel_rfl) (by kernel_rfl) (by kernel_rfl) (fun _ _ _ h => h) (Or.inl ⟨by rfl, ?_⟩) (by assumption) ?_
      rotate_left
      · intro w hSw
        (try dsimp only at hSw)
        go_simp
        try with_reducible rfl
      try simp only [Act.put, List.getElem_toArray, List.getElem_cons_zero, List.getElem_cons_succ, List.setIfInBounds_toArray, List.set_cons_zero, List.set_cons_succ]
      refine wpAnyH_take (i := 12) (oi := _) (v := ?_) rfl (by kernel_rfl) (by kernel_rfl) (by kernel_rfl) (fun _ _ _ h => h) (Or.inl ⟨by rfl, ?_⟩) (by assumption) ?_
      rotate_left
      · intro w hSw
        (try dsimp only at hSw)
        go_simp
        try with_reducible rfl
      try simp only [Act.put, List.getElem_toArray, List.getElem_cons_zero, List.getElem_cons_succ, List.setIfInBounds_toArray, List.set_cons_zero, List.set_cons_succ]
      refine wpAnyH_take (i := 13) (oi := _) (v := ?_) rfl (by kernel_rfl) (by kernel_rfl) (by kernel_rfl) (fun _ _ _ h => h) (Or.inl ⟨by rfl, ?_⟩) (by assumption) ?_
      rotate_left
      · intro w hSw
        (try dsimp only at hSw)
        go_simp
        try with_reducible rfl
      try simp only [Act.put, List.getElem_toArray, List.getElem_cons_zero, List.getElem_cons_succ, List.setIfInBounds_toArray, List.set_cons_zero, List.set_cons_succ]
      refine wpAnyH_take (i := 14) (oi := _) (v := ?_) rfl (by kernel_rfl) (by kernel_rfl) (by kernel_rfl) (fun _ _ _ h => h) (Or.inl ⟨by rfl, ?_⟩) (by assumption) ?_
      rotate_left
      · intro w hSw
        (try dsimp only at hSw)
        go_simp
        try with_reducible rfl
      try simp only [Act.put, List.getElem_toArray, List.getElem_cons_zero, List.getElem_cons_succ, List.setIfInBounds_toArray, List.set_cons_zero, List.set_cons_succ]
      refine wpAnyH_take (i := 15) (oi := _) (v := ?_) rfl (by kernel_rfl) (by kernel_rfl) (by kernel_rfl) (fun _ _ _ h => h) (Or.inl ⟨by rfl, ?_⟩) (by assumption) ?_
      rotate_left
      · intro w hSw
        (try dsimp only at hSw)
        go_simp
        try with_reducible rfl
      try simp only [Act.put, List.getElem_toArray, List.getElem_cons_zero, List.getElem_cons_succ, List.setIfInBounds_toArray, List.set_cons_zero, List.set_cons_succ]
      refine wpAnyH_take (i := 16) (oi := _) (v := ?_) rfl (by kernel_rfl) (by kernel_rfl) (by kernel_rfl) (fun _ _ _ h => h) (Or.inl ⟨by rfl, ?_⟩) (by assumption) ?_
      rotate_left
      · intro w hSw
        (try dsimp only at hSw)
        go_simp
        try with_reducible rfl
      try simp only [Act.put, List.getElem_toArray, List.getElem_cons_zero, List.getElem_cons_succ, List.setIfInBounds_toArray, List.set_cons_zero, List.set_cons_succ]
      refine wpAnyH_take (i := 17) (oi := _) (v := ?_) rfl (by kernel_rfl) (by kernel_rfl) (by kernel_rfl) (fun _ _ _ h => h) (Or.inl ⟨by rfl, ?_⟩) (by assumption) ?_
      rotate_left
      · intro w hSw
        (try dsimp only at hSw)
        go_simp
        try with_reducible rfl
      try simp only [Act.put, List.getElem_toArray, List.getElem_cons_zero, List.getElem_cons_succ, List.setIfInBounds_toArray, List.set_cons_zero, List.set_cons_succ]
      refine wpAnyH_take (i := 18) (oi := _) (v := ?_) rfl (by kernel_rfl) (by kernel_rfl) (by kernel_rfl) (fun _ _ _ h => h) (Or.inl ⟨by rfl, ?_⟩) (by assumption) ?_
      rotate_left
      · intro w hSw
        (try dsimp only at hSw)
        go_simp
        try with_reducible rfl
      try simp only [Act.put, List.getElem_toArray, List.getElem_cons_zero, List.getElem_cons_succ, List.setIfInBounds_toArray, List.set_cons_zero, List.set_cons_succ]
      refine wpAnyH_take (i := 19) (oi := _) (v := ?_) rfl (by kernel_rfl) (by kernel_rfl) (by kernel_rfl) (fun _ _ _ h => h) (Or.inl ⟨by rfl, ?_⟩) (by assumption) ?_
      rotate_left
      · intro w hSw
        (try dsimp only at hSw)
        go_simp
        try with_reducible rfl
      try simp only [Act.put, List.getElem_toArray, List.getElem_cons_zero, List.getElem_cons_succ, List.setIfInBounds_toArray, List.set_cons_zero, List.set_cons_succ]
      refine wpAnyH_take (i := 20) (oi := _) (v := ?_) rfl (by kernel_rfl) (by kernel_rfl) (by kernel_rfl) (fun _ _ _ h => h) (Or.inl ⟨by rfl, ?_⟩) (by assumption) ?_
      rotate_left
      · intro w hSw
        (try dsimp only at hSw)
        go_simp
        try with_reducible rfl
      try simp only [Act.put, List.getElem_toArray, List.getElem_cons_zero, List.getElem_cons_succ, List.setIfInBounds_toArray, List.set_cons_zero, List.set_cons_succ]
      refine wpAnyH_take (i := 21) (oi := _) (v := ?_) rfl (by kernel_rfl) (by kernel_rfl) (by kernel_rfl) (fun _ _ _ h => h) (Or.inl ⟨by rfl, ?_⟩) (by assumption) ?_
      rotate_left
      · intro w hSw
        (try dsimp only at hSw)
        go_simp
        try with_reducible rfl
      try simp only [Act.put, List.getElem_toArray, List.getElem_cons_zero, List.getElem_cons_succ, List.setIfInBounds_toArray, List.set_cons_zero, List.set_cons_succ]
      refine wpAnyH_take (i := 22) (oi := _) (v := ?_) rfl (by kernel_rfl) (by kernel_rfl) (by kernel_rfl) (fun _ _ _ h => h) (Or.inl ⟨by rfl, ?_⟩) (by assumption) ?_
      rotate_left
      · intro w hSw
        (try dsimp only at hSw)
        go_simp
        try with_reducible rfl
      try simp only [Act.put, List.getElem_toArray, List.getElem_cons_zero, List.getElem_cons_succ, List.setIfInBounds_toArray, List.set_cons_zero, List.set_cons_succ]
      refine wpAnyH_take (i := 23) (oi := _) (v := ?_) rfl (by kernel_rfl) (by kernel_rfl) (by kernel_rfl) (fun _ _ _ h => h) (Or.inl ⟨by rfl, ?_⟩) (by assumption) ?_
      rotate_left
      · intro w hSw
        (try dsimp only at hSw)
        go_simp
        try with_reducible rfl
      try simp only [Act.put, List.getElem_toArray, List.getElem_cons_zero, List.getElem_cons_succ, List.setIfInBounds_toArray, List.set_cons_zero, List.set_cons_succ]
      refine wpAnyH_take (i := 24) (oi := _) (v := ?_) rfl (by kernel_rfl) (by kernel_rfl) (by kernel_rfl) (fun _ _ _ h => h) (Or.inl ⟨by rfl, ?_⟩) (by assumption) ?_
      rotate_left
      · intro w hSw
        (try dsimp only at hSw)
        go_simp
        try with_reducible rfl
      try simp only [Act.put, List.getElem_toArray, List.getElem_cons_zero, List.getElem_cons_succ, List.setIfInBounds_toArray, List.set_cons_zero, List.set_cons_succ]
      refine wpAnyH_take (i := 25) (oi := _) (v := ?_) rfl (by kernel_rfl) (by kernel_rfl) (by kernel_rfl) (fun _ _ _ h => h) (Or.inl ⟨by rfl, ?_⟩) (by assumption) ?_
      rotate_left
      · intro w hSw
        (try dsimp only at hSw)
        go_simp
        try with_reducible rfl
      try simp only [Act.put, List.getElem_toArray, List.getElem_cons_zero, List.getElem_cons_succ, List.setIfInBounds_toArray, List.set_cons_zero, List.set_cons_succ]
      refine wpAnyH_take (i := 26) (oi := _) (v := ?_) rfl (by kernel_rfl) (by kernel_rfl) (by kernel_rfl) (fun _ _ _ h => h) (Or.inl ⟨by rfl, ?_⟩) (by assumption) ?_
      rotate_left
      · intro w hSw
        (try dsimp only at hSw)
        go_simp
        try with_reducible rfl
      try simp only [Act.put, List.getElem_toArray, List.getElem_cons_zero, List.getElem_cons_succ, List.setIfInBounds_toArray, List.set_cons_zero, List.set_cons_succ]
      refine wpAnyH_take (i := 27) (oi := _) (v := ?_) rfl (by kernel_rfl) (by kernel_rfl) (by kernel_rfl) (fun _ _ _ h => h) (Or.inl ⟨by rfl, ?_⟩) (by assumption) ?_
      rotate_left
      · intro w hSw
        (try dsimp only at hSw)
        go_simp
        try with_reducible rfl
      try simp only [Act.put, List.getElem_toArray, List.getElem_cons_zero, List.getElem_cons_succ, List.setIfInBounds_toArray, List.set_cons_zero, List.set_cons_succ]
      refine wpAnyH_take (i := 28) (oi := _) (v := ?_) rfl (by kernel_rfl) (by kernel_rfl) (by kernel_rfl) (fun _ _ _ h => h) (Or.inl ⟨by rfl, ?_⟩) (by assumption) ?_
      rotate_left
      · intro w hSw
        (try dsimp only at hSw)
        go_simp
        try with_reducible rfl
      try simp only [Act.put, List.getElem_toArray, List.getElem_cons_zero, List.getElem_cons_succ, List.setIfInBounds_toArray, List.set_cons_zero, List.set_cons_succ]
      refine wpAnyH_take (i := 29) (oi := _) (v := ?_) rfl (by kernel_rfl) (by kernel_rfl) (by kernel_rfl) (fun _ _ _ h => h) (Or.inl ⟨by rfl, ?_⟩) (by assumption) ?_
      rotate_left
      · intro w hSw
        (try dsimp only at hSw)
        go_simp
        try with_reducible rfl
      try simp only [Act.put, List.getElem_toArray, List.getElem_cons_zero, List.getElem_cons_succ, List.setIfInBounds_toArray, List.set_cons_zero, List.set_cons_succ]
      refine wpAnyH_take (i := 30) (oi := _) (v := ?_) rfl (by kernel_rfl) (by kernel_rfl) (by kernel_rfl) (fun _ _ _ h => h) (Or.inl ⟨by rfl, ?_⟩) (by assumption) ?_
      rotate_left
      · intro w hSw
        (try dsimp only at hSw)
        go_simp
        try with_reducible rfl
      try simp only [Act.put, List.getElem_toArray, List.getElem_cons_zero, List.getElem_cons_succ, List.setIfInBounds_toArray, List.set_cons_zero, List.set_cons_succ]
      refine wpAnyH_take (i := 31) (oi := _) (v := ?_) rfl (by kernel_rfl) (by kernel_rfl) (by kernel_rfl) (fun _ _ _ h => h) (Or.inl ⟨by rfl, ?_⟩) (by assumption) ?_
      rotate_left
      · intro w hSw
        (try dsimp only at hSw)
        go_simp
        try with_reducible rfl
      try simp only [Act.put, List.getElem_toArray, List.getElem_cons_zero, List.getElem_cons_succ, List.setIfInBounds_toArray, List.set_cons_zero, List.set_cons_succ]
      refine wpAnyH_take (i := 32) (oi := _) (v := ?_) rfl (by kernel_rfl) (by kernel_rfl) (by kernel_rfl) (fun _ _ _ h => h) (Or.inl ⟨by rfl, ?_⟩) (by assumption) ?_
      rotate_left
      · intro w hSw
        (try dsimp only at hSw)
        go_simp
        try with_reducible rfl
      try simp only [Act.put, List.getElem_toArray, List.getElem_cons_zero, List.getElem_cons_succ, List.setIfInBounds_toArray, List.set_cons_zero, List.set_cons_succ]
      refine wpAnyH_take (i := 33) (oi := _) (v := ?_) rfl (by kernel_rfl) (by kernel_rfl) (by kernel_rfl) (fun _ _ _ h => h) (Or.inl ⟨by rfl, ?_⟩) (by assumption) ?_
      rotate_left
      · intro w hSw
        (try dsimp only at hSw)
        go_simp
        try with_reducible rfl
      try simp only [Act.put, List.getElem_toArray, List.getElem_cons_zero, List.getElem_cons_succ, List.setIfInBounds_toArray, List.set_cons_zero, List.set_cons_succ]
      refine wpAnyH_take (i := 34) (oi := _) (v := ?_) rfl (by kernel_rfl) (by kernel_rfl) (by kernel_rfl) (fun _ _ _ h => h) (Or.inl ⟨by rfl, ?_⟩) (by assumption) ?_
      rotate_left
      · intro w hSw
        (try dsimp only at hSw)
        go_simp
        try with_reducible rfl
      try simp only [Act.put, List.getElem_toArray, List.getElem_cons_zero, List.getElem_cons_succ, List.setIfInBounds_toArray, List.set_cons_zero, List.set_cons_succ]
      refine wpAnyH_take (i := 35) (oi := _) (v := ?_) rfl (by kernel_rfl) (by kernel_rfl) (by kernel_rfl) (fun _ _ _ h => h) (Or.inl ⟨by rfl, ?_⟩) (by assumption) ?_
      rotate_left
      · intro w hSw
        (try dsimp only at hSw)
        go_simp
        try with_reducible rfl
      try simp only [Act.put, List.getElem_toArray, List.getElem_cons_zero, List.getElem_cons_succ, List.setIfInBounds_toArray, List.set_cons_zero, List.set_cons_succ]
      refine wpAnyH_take (i := 36) (oi := _) (v := ?_) rfl (by kernel_rfl) (by kernel_rfl) (by kernel_rfl) (fun _ _ _ h => h) (Or.inl ⟨by rfl, ?_⟩) (by assumption) ?_
      rotate_left
      · intro w hSw
        (try dsimp only at hSw)
        go_simp
        try with_reducible rfl
      try simp only [Act.put, List.getElem_toArray, List.getElem_cons_zero, List.getElem_cons_succ, List.setIfInBounds_toArray, List.set_cons_zero, List.set_cons_succ]
      refine wpAnyH_take (i := 37) (oi := _) (v := ?_) rfl (by kernel_rfl) (by kernel_rfl) (by kernel_rfl) (fun _ _ _ h => h) (Or.inl ⟨by rfl, ?_⟩) (by assumption) ?_
      rotate_left
      · intro w hSw
        (try dsimp only at hSw)
        go_simp
        try with_reducible rfl
      try simp only [Act.put, List.getElem_toArray, List.getElem_cons_zero, List.getElem_cons_succ, List.setIfInBounds_toArray, List.set_cons_zero, List.set_cons_succ]
      refine wpAnyH_take (i := 38) (oi := _) (v := ?_) rfl (by kernel_rfl) (by kernel_rfl) (by kernel_rfl) (fun _ _ _ h => h) (Or.inl ⟨by rfl, ?_⟩) (by assumption) ?_
      rotate_left
      · intro w hSw
        (try dsimp only at hSw)
        go_simp
        try with_reducible rfl
      try simp only [Act.put, List.getElem_toArray, List.getElem_cons_zero, List.getElem_cons_succ, List.setIfInBounds_toArray, List.set_cons_zero, List.set_cons_succ]
      refine wpAnyH_take (i := 39) (oi := _) (v := ?_) rfl (by kernel_rfl) (by kernel_rfl) (by kernel_rfl) (fun _ _ _ h => h) (Or.inl ⟨by rfl, ?_⟩) (by assumption) ?_
      rotate_left
      · intro w hSw
        (try dsimp only at hSw)
        go_simp
        try with_reducible rfl
      try simp only [Act.put, List.getElem_toArray, List.getElem_cons_zero, List.getElem_cons_succ, List.setIfInBounds_toArray, List.set_cons_zero, List.set_cons_succ]
      refine wpAnyH_take (i := 40) (oi := _) (v := ?_) rfl (by kernel_rfl) (by kernel_rfl) (by kernel_rfl) (fun _ _ _ h => h) (Or.inl ⟨by rfl, ?_⟩) (by assumption) ?_
      rotate_left
      · intro w hSw
        (try dsimp only at hSw)
        go_simp
        try with_reducible rfl
      try simp only [Act.put, List.getElem_toArray, List.getElem_cons_zero, List.getElem_cons_succ, List.setIfInBounds_toArray, List.set_cons_zero, List.set_cons_succ]
      refine wpAnyH_take (i := 41) (oi := _) (v := ?_) rfl (by kernel_rfl) (by kernel_rfl) (by kernel_rfl) (fun _ _ _ h => h) (Or.inl ⟨by rfl, ?_⟩) (by assumption) ?_
      rotate_left
      · intro w hSw
        (try dsimp only at hSw)
        go_simp
        try with_reducible rfl
      try simp only [Act.put, List.getElem_toArray, List.getElem_cons_zero, List.getElem_cons_succ, List.setIfInBounds_toArray, List.set_cons_zero, List.set_cons_succ]
      refine wpAnyH_take (i := 42) (oi := _) (v := ?_) rfl (by kernel_rfl) (by kernel_rfl) (by kernel_rfl) (fun _ _ _ h => h) (Or.inl ⟨by rfl, ?_⟩) (by assumption) ?_
      rotate_left
      · intro w hSw
        (try dsimp only at hSw)
        go_simp
        try with_reducible rfl
      try simp only [Act.put, List.getElem_toArray, List.getElem_cons_zero, List.getElem_cons_succ, List.setIfInBounds_toArray, List.set_cons_zero, List.set_cons_succ]
      refine wpAnyH_take (i := 43) (oi := _) (v := ?_) rfl (by kernel_rfl) (by kernel_rfl) (by kernel_rfl) (fun _ _ _ h => h) (Or.inl ⟨by rfl, ?_⟩) (by assumption) ?_
      rotate_left
      · intro w hSw
        (try dsimp only at hSw)
        go_simp
        try with_reducible rfl
      try simp only [Act.put, List.getElem_toArray, List.getElem_cons_zero, List.getElem_cons_succ, List.setIfInBounds_toArray, List.set_cons_zero, List.set_cons_succ]
      refine wpAnyH_take (i := 44) (oi := _) (v := ?_) rfl (by kernel_rfl) (by kernel_rfl) (by kernel_rfl) (fun _ _ _ h => h) (Or.inl ⟨by rfl, ?_⟩) (by assumption) ?_
      rotate_left
      · intro w hSw
        (try dsimp only at hSw)
        go_simp
        try with_reducible rfl
      try simp only [Act.put, List.getElem_toArray, List.getElem_cons_zero, List.getElem_cons_succ, List.setIfInBounds_toArray, List.set_cons_zero, List.set_cons_succ]
      refine wpAnyH_take (i := 45) (oi := _) (v := ?_) rfl (by kernel_rfl) (by kernel_rfl) (by kernel_rfl) (fun _ _ _ h => h) (Or.inl ⟨by rfl, ?_⟩) (by assumption) ?_
      rotate_left
      · intro w hSw
        (try dsimp only at hSw)
        go_simp
        try with_reducible rfl
      try simp only [Act.put, List.getElem_toArray, List.getElem_cons_zero, List.getElem_cons_succ, List.setIfInBounds_toArray, List.set_cons_zero, List.set_cons_succ]
      refine wpAnyH_take (i := 46) (oi := _) (v := ?_) rfl (by kernel_rfl) (by kernel_rfl) (by kernel_rfl) (fun _ _ _ h => h) (Or.inl ⟨by rfl, ?_⟩) (by assumption) ?_
      rotate_left
      · intro w hSw
        (try dsimp only at hSw)
        go_simp
        try with_reducible rfl
      try simp only [Act.put, List.getElem_toArray, List.getElem_cons_zero, List.getElem_cons_succ, List.setIfInBounds_toArray, List.set_cons_zero, List.set_cons_succ]
      refine wpAnyH_take (i := 47) (oi := _) (v := ?_) rfl (by kernel_rfl) (by kernel_rfl) (by kernel_rfl) (fun _ _ _ h => h) (Or.inl ⟨by rfl, ?_⟩) (by assumption) ?_
      rotate_left
      · intro w hSw
        (try dsimp only at hSw)
        go_simp
        try with_reducible rfl
      try simp only [Act.put, List.getElem_toArray, List.getElem_cons_zero, List.getElem_cons_succ, List.setIfInBounds_toArray, List.set_cons_zero, List.set_cons_succ]
      refine wpAnyH_take (i := 48) (oi := _) (v := ?_) rfl (by kernel_rfl) (by kernel_rfl) (by kernel_rfl) (fun _ _ _ h => h) (Or.inl ⟨by rfl, ?_⟩) (by assumption) ?_
      rotate_left
      · intro w hSw
        (try dsimp only at hSw)
        go_simp
        try with_reducible rfl
      try simp only [Act.put, List.getElem_toArray, List.getElem_cons_zero, List.getElem_cons_succ, List.setIfInBounds_toArray, List.set_cons_zero, List.set_cons_succ]
      refine wpAnyH_take (i := 49) (oi := _) (v := ?_) rfl (by kernel_rfl) (by kernel_rfl) (by kernel_rfl) (fun _ _ _ h => h) (Or.inl ⟨by rfl, ?_⟩) (by assumption) ?_
      rotate_left
      · intro w hSw
        (try dsimp only at hSw)
        go_simp
        try with_reducible rfl
      try simp only [Act.put, List.getElem_toArray, List.getElem_cons_zero, List.getElem_cons_succ, List.setIfInBounds_toArray, List.set_cons_zero, List.set_cons_succ]
      refine wpAnyH_take (i := 50) (oi := _) (v := ?_) rfl (by kernel_rfl) (by kernel_rfl) (by kernel_rfl) (fun _ _ _ h => h) (Or.inl ⟨by rfl, ?_⟩) (by assumption) ?_
      rotate_left
      · intro w hSw
        (try dsimp only at hSw)
        go_simp
        try with_reducible rfl
      try simp only [Act.put, List.getElem_toArray, List.getElem_cons_zero, List.getElem_cons_succ, List.setIfInBounds_toArray, List.set_cons_zero, List.set_cons_succ]
      refine wpAnyH_ready (rs := [2, 52]) (by kernel_rfl) (by simp) ?_
      refine AllReadyH.cons (o := _) rfl (fun K hK => ?_) (AllReadyH.cons (o := _) rfl (fun K hK => ?_) AllReadyH.nil)
      · go_simp
        refine Calls.mono (number_any _ _ _ (l.drop 4) _ ((HD4.out).up (by iterate 8 try (first | assumption | apply belDr | apply belAlloc | exact belR _))) (by decide) (by decide)) ?_
        rw [HN4.out]
        rintro e wa ⟨rfl, bwa⟩
        have Bwa : Below w0.heap.size w0 wa := belT (by iterate 8 try (first | assumption | apply belDr | apply belAlloc | exact belR _)) bwa
        try go_simp
        refine hK.out _ _ (HK.out _ (by iterate 8 try (first | assumption | apply belDr | apply belAlloc | exact belR _))) (fun hHeld => ?_)
        clear hK K
        try simp only [Act.put, List.getElem_toArray, List.getElem_cons_zero, List.getElem_cons_succ, List.setIfInBounds_toArray, List.set_cons_zero, List.set_cons_succ]
        refine wpAnyH_take (i := 51) (oi := _) (v := ?_) rfl (by kernel_rfl) (by kernel_rfl) (by kernel_rfl) (fun _ _ _ h => h) (Or.inl ⟨by rfl, ?_⟩) (by assumption) ?_
        rotate_left
        · intro w hSw
          (try dsimp only at hSw)
          go_simp
          try with_reducible rfl
        try simp only [Act.put, List.getElem_toArray, List.getElem_cons_zero, List.getElem_cons_succ, List.setIfInBounds_toArray, List.set_cons_zero, List.set_cons_succ]
        refine wpAnyH_ready (rs := [52]) (by kernel_rfl) (by simp) ?_
        refine AllReadyH.cons (o := _) rfl (fun K hK => ?_) AllReadyH.nil
        have BX : Box (wa.alloc (.cells (sc Sup.zero).toArray 57)) wa.heap.size (sc Sup.zero) := Box.new _ _ _
        have BZ : Below w0.heap.size w0 (wa.alloc (.cells (sc Sup.zero).toArray 57)) := belAlloc (by iterate 8 try (first | assumption | apply belDr | apply belAlloc | exact belR _)) _
        have gz : w0.heap.size ≤ wa.heap.size := (show Below w0.heap.size w0 wa from (by iterate 8 try (first | assumption | apply belDr | apply belAlloc | exact belR _))).size
        have gs : wa.heap.size < (wa.alloc (.cells (sc Sup.zero).toArray 57)).heap.size := by simp
        go_simp
        refine hK.out _ _ (HK.out _ (by iterate 8 try (first | assumption | apply belDr | apply belAlloc | exact belR _))) (fun hHeld => ?_)
        clear hK K
        try simp only [Act.put, List.getElem_toArray, List.getElem_cons_zero, List.getElem_cons_succ, List.setIfInBounds_toArray, List.set_cons_zero, List.set_cons_succ]
        refine wpAnyH_ready (rs := [53]) (by kernel_rfl) (by simp) ?_
        refine AllReadyH.cons (o := _) rfl (fun K hK => ?_) AllReadyH.nil
        rw [if_pos (by rfl)]
        refine wp_store_mid 57 _ _ rfl wa.heap.size 0 (sc ⟨(num m : Nat), ⟨x8, x9, x10⟩, ⟨x11, x12, x13⟩, x14 == 1, x15, (x16 * 256 + x17 : Nat), x18⟩).toArray rfl (by exact agg_sc _ x8 x9 x10 x11 x12 x13 x14 x15 x16 x17 x18 (by first | exact HOR.out | rfl | (rw [k16b]; exact HOR.out))) (show World.there _ _ 0 11 from BX.there) (show _ = some 11 from refsuper_info) (sc_one _) ?_
        have BY := BX.store (cs' := (sc ⟨(num m : Nat), ⟨x8, x9, x10⟩, ⟨x11, x12, x13⟩, x14 == 1, x15, (x16 * 256 + x17 : Nat), x18⟩)) rfl
        have BW : Below w0.heap.size w0 _ := Fr.below BZ (Fr.cells _ wa.heap.size 0 (sc ⟨(num m : Nat), ⟨x8, x9, x10⟩, ⟨x11, x12, x13⟩, x14 == 1, x15, (x16 * 256 + x17 : Nat), x18⟩)) BZ.size (fun i hi => by rw [hi]; exact gz)
        have gl : wa.heap.size < (World.setCells _ wa.heap.size 0 (sc ⟨(num m : Nat), ⟨x8, x9, x10⟩, ⟨x11, x12, x13⟩, x14 == 1, x15, (x16 * 256 + x17 : Nat), x18⟩)).heap.size := Nat.lt_of_lt_of_le gs (Fr.cells _ wa.heap.size 0 (sc ⟨(num m : Nat), ⟨x8, x9, x10⟩, ⟨x11, x12, x13⟩, x14 == 1, x15, (x16 * 256 + x17 : Nat), x18⟩)).size
        refine hK.out _ _ (HK.out _ BW) (fun hHeld => ?_)
        clear hK K
        try simp only [Act.put, List.getElem_toArray, List.getElem_cons_zero, List.getElem_cons_succ, List.setIfInBounds_toArray, List.set_cons_zero, List.set_cons_succ]
        refine wpAnyH_done (by kernel_rfl) ?_ _
        go_wp2
        go_meet
        case rel => exact ⟨_, rfl, gz, gl, Lib.hid BY, BW⟩
      · have BX : Box (wR.drew.alloc (.cells (sc Sup.zero).toArray 57)) wR.heap.size (sc Sup.zero) := Box.new _ _ _
        have BZ : Below w0.heap.size w0 (wR.drew.alloc (.cells (sc Sup.zero).toArray 57)) := belAlloc (by iterate 8 try (first | assumption | apply belDr | apply belAlloc | exact belR _)) _
        have gz : w0.heap.size ≤ wR.heap.size := (show Below w0.heap.size w0 wR.drew from (by iterate 8 try (first | assumption | apply belDr | apply belAlloc | exact belR _))).size
        have gs : wR.heap.size < (wR.drew.alloc (.cells (sc Sup.zero).toArray 57)).heap.size := by simp
        go_simp
        refine hK.out _ _ (HK.out _ (by iterate 8 try (first | assumption | apply belDr | apply belAlloc | exact belR _))) (fun hHeld => ?_)
        clear hK K
        try simp only [Act.put, List.getElem_toArray, List.getElem_cons_zero, List.getElem_cons_succ, List.setIfInBounds_toArray, List.set_cons_zero, List.set_cons_succ]
        refine wpAnyH_ready (rs := [2]) (by kernel_rfl) (by simp) ?_
        refine AllReadyH.cons (o := _) rfl (fun K hK => ?_) AllReadyH.nil
        go_simp
        refine Calls.mono (number_any _ _ _ (l.drop 4) _ ((HD4.out).up (by iterate 8 try (first | assumption | apply belDr | apply belAlloc | exact belR _))) (by decide) (by decide)) ?_
        rw [HN4.out]
        rintro e wa ⟨rfl, bwa⟩
        have Bwa : Below w0.heap.size w0 wa := belT (by iterate 8 try (first | assumption | apply belDr | apply belAlloc | exact belR _)) bwa
        have BX := BX.fr (Fr.of_below (S := fun _ => False) bwa) id
        have gs := Nat.lt_of_lt_of_le gs bwa.size
        have BZ := Bwa
        try go_simp
        refine hK.out _ _ (HK.out _ (by iterate 8 try (first | assumption | apply belDr | apply belAlloc | exact belR _))) (fun hHeld => ?_)
        clear hK K
        try simp only [Act.put, List.getElem_toArray, List.getElem_cons_zero, List.getElem_cons_succ, List.setIfInBounds_toArray, List.set_cons_zero, List.set_cons_succ]
        refine wpAnyH_take (i := 51) (oi := _) (v := ?_) rfl (by kernel_rfl) (by kernel_rfl) (by kernel_rfl) (fun _ _ _ h => h) (Or.inl ⟨by rfl, ?_⟩) (by assumption) ?_
        rotate_left
        · intro w hSw
          (try dsimp only at hSw)
          go_simp
          try with_reducible rfl
        try simp only [Act.put, List.getElem_toArray, List.getElem_cons_zero, List.getElem_cons_succ, List.setIfInBounds_toArray, List.set_cons_zero, List.set_cons_succ]
        refine wpAnyH_ready (rs := [53]) (by kernel_rfl) (by simp) ?_
        refine AllReadyH.cons (o := _) rfl (fun K hK => ?_) AllReadyH.nil
        rw [if_pos (by rfl)]
        refine wp_store_mid 57 _ _ rfl wR.heap.size 0 (sc ⟨(num m : Nat), ⟨x8, x9, x10⟩, ⟨x11, x12, x13⟩, x14 == 1, x15, (x16 * 256 + x17 : Nat), x18⟩).toArray rfl (by exact agg_sc _ x8 x9 x10 x11 x12 x13 x14 x15 x16 x17 x18 (by first | exact HOR.out | rfl | (rw [k16b]; exact HOR.out))) (show World.there _ _ 0 11 from BX.there) (show _ = some 11 from refsuper_info) (sc_one _) ?_
        have BY := BX.store (cs' := (sc ⟨(num m : Nat), ⟨x8, x9, x10⟩, ⟨x11, x12, x13⟩, x14 == 1, x15, (x16 * 256 + x17 : Nat), x18⟩)) rfl
        have BW : Below w0.heap.size w0 _ := Fr.below BZ (Fr.cells _ wR.heap.size 0 (sc ⟨(num m : Nat), ⟨x8, x9, x10⟩, ⟨x11, x12, x13⟩, x14 == 1, x15, (x16 * 256 + x17 : Nat), x18⟩)) BZ.size (fun i hi => by rw [hi]; exact gz)
        have gl : wR.heap.size < (World.setCells _ wR.heap.size 0 (sc ⟨(num m : Nat), ⟨x8, x9, x10⟩, ⟨x11, x12, x13⟩, x14 == 1, x15, (x16 * 256 + x17 : Nat), x18⟩)).heap.size := Nat.lt_of_lt_of_le gs (Fr.cells _ wR.heap.size 0 (sc ⟨(num m : Nat), ⟨x8, x9, x10⟩, ⟨x11, x12, x13⟩, x14 == 1, x15, (x16 * 256 + x17 : Nat), x18⟩)).size
        refine hK.out _ _ (HK.out _ BW) (fun hHeld => ?_)
        clear hK K
        try simp only [Act.put, List.getElem_toArray, List.getElem_cons_zero, List.getElem_cons_succ, List.setIfInBounds_toArray, List.set_cons_zero, List.set_cons_succ]
        refine wpAnyH_done (by kernel_rfl) ?_ _
        go_wp2
        go_meet
        case rel => exact ⟨_, rfl, gz, gl, Lib.hid BY, BW⟩
    obtain ⟨g, rfl, hg1, hg2, HB, B1⟩ := hcut
    clear k8 k9 k10 k11 k12 k13 k15 k16 k17 k18 hor k16b
    obtain ⟨S, hS⟩ : ∃ S : Sup, S = ⟨(num m : Nat), ⟨x8, x9, x10⟩, ⟨x11, x12, x13⟩, x14 == 1, x15, (x16 * 256 + x17 : Nat), x18⟩ := ⟨_, rfl⟩
    have HSP : Hid (Sup.parse l = S) := by show _ = _; rw [hS]; exact HP.out
    rw [← hS] at HB
    have HS := Lib.hid hS
    clear hS
    obtain ⟨d0, d1, d2, d3, d4, d5, d6, d7, d8, d9, d10⟩ := HB.out.cells11
    have hin : S.In := HSP.out ▸ HIN.out
    have XR := X0.out.fr (Fr.of_below (S := fun _ => False) B1) id
    cases hok : S.ok with
    | false =>
      have HIF : Hid (Sup.is l = false) := by show _ = _; rw [HIS.out, HSP.out, hok]; rfl
      have hc := fun W => refsencode_no S W hin hok
      unfold sv at hc
      have HC := Lib.hid hc
      clear hc hok
      go_wp2_with (first
        | (go_at_call 26; refine Calls.mono (HC.out _) ?_; rintro e wE ⟨rfl, bE⟩; have BE : Below w.heap.size w wE := belT B0 (belT B1 bE); have XE := XR.fr (Fr.of_below (S := fun _ => False) bE) id)
        | (refine wpList_store_mid rfl 57 (.tmp 2) (.tmp 82) rfl w.heap.size 0 (sc Sup.zero).toArray rfl rfl (show World.there _ _ 0 11 from XE.there) (show _ = some 11 from refsuper_info) (sc_one _) ?_; have XF := XE.store (cs' := sc Sup.zero) rfl; have BF := Fr.below (B := w.heap.size) BE (Fr.cells _ w.heap.size 0 (sc Sup.zero)) BE.size (fun i hi => by rw [hi]; exact Nat.le_refl _); have hsame : (sc Sup.zero).toArray.toList = sc Sup.zero := rfl; rw [hsame]; clear hsame; obtain ⟨f0, f1, f2, f3, f4, f5, f6, f7, f8, f9, f10⟩ := XF.cells11; generalize World.setCells _ w.heap.size 0 (sc Sup.zero) = wF at *))
      refine bodyPost_ret (v := .tuple #[sv Sup.zero, .bool false]) (by simp [results, Try.results30, go_sem, sv, f0, f1, f2, f3, f4, f5, f6, f7, f8, f9, f10]) rfl ⟨?_, BF⟩
      rw [HIF.out]; rfl
    | true =>
      have hcy := fun W => refsencode_yes (num m) x8 x9 x10 x11 x12 x13 (x14 == 1) x15 (x16 * 256 + x17) x18 W S HS.out hok
      unfold sv at hcy
      have HC := Lib.hid hcy
      have HOK := Lib.hid hok
      clear hcy hok
      by_cases heq : S.enc = l
      · have HIT : Hid (Sup.is l = true) := by show _ = _; rw [HIS.out, HSP.out, HOK.out, heq]; simp
        have HEQ := Lib.hid heq
        clear heq
        go_wp2_with (first
          | (go_at_call 26; refine Calls.mono (HC.out _) ?_; rintro e wE ⟨vE, rfl, OE, bE⟩; have BE : Below w.heap.size w wE := belT B0 (belT B1 bE); have XE := XR.fr (Fr.of_below (S := fun _ => False) bE) id; obtain ⟨i0, i1, i2, i3, i4, i5, i6, i7, i8, i9, i10⟩ := (HB.out.fr (Fr.of_below (S := fun _ => False) bE) id).cells11; have q1 := OE.byt.conv; rw [HEQ.out] at q1; have q2 := (HBY.out.up (belT B1 bE)).conv)
          | (refine wpList_store_mid rfl 57 (.tmp 2) (.tmp 83) rfl w.heap.size 0 (sc S).toArray rfl rfl (show World.there _ _ 0 11 from XE.there) (show _ = some 11 from refsuper_info) (sc_one _) ?_; have XF := XE.store (cs' := sc S) rfl; have BF := Fr.below (B := w.heap.size) BE (Fr.cells _ w.heap.size 0 (sc S)) BE.size (fun i hi => by rw [hi]; exact Nat.le_refl _); have hsame : (sc S).toArray.toList = sc S := rfl; rw [hsame]; clear hsame; obtain ⟨f0, f1, f2, f3, f4, f5, f6, f7, f8, f9, f10⟩ := XF.cells11; generalize World.setCells _ w.heap.size 0 (sc S) = wF at *))
        refine bodyPost_ret (v := .tuple #[sv S, .bool true]) (by simp [results, Try.results30, go_sem, sv, f0, f1, f2, f3, f4, f5, f6, f7, f8, f9, f10]) rfl ⟨?_, BF⟩
        rw [HIT.out, HSP.out]; rfl
      · have HIF : Hid (Sup.is l = false) := by show _ = _; rw [HIS.out, HSP.out, HOK.out, decide_eq_false heq]; rfl
        have hne2 : ((strB S.enc).toList == (strB l).toList) = false := by
          rw [← beq_toListBytes]
          have e : (strB S.enc == strB l) = ((S.enc.map UInt8.ofNat).toArray == (l.map UInt8.ofNat).toArray) := rfl
          rw [e, beq_eq_false_iff_ne]
          exact fun e => heq (strB_inj S.enc_byte HL8.out (by unfold strB; rw [e]))
        clear heq
        go_wp2_with (first
          | (go_at_call 26; refine Calls.mono (HC.out _) ?_; rintro e wE ⟨vE, rfl, OE, bE⟩; have BE : Below w.heap.size w wE := belT B0 (belT B1 bE); have XE := XR.fr (Fr.of_below (S := fun _ => False) bE) id; have q1 := OE.byt.conv; have q2 := (HBY.out.up (belT B1 bE)).conv)
          | (refine wpList_store_mid rfl 57 (.tmp 2) (.tmp 82) rfl w.heap.size 0 (sc Sup.zero).toArray rfl rfl (show World.there _ _ 0 11 from XE.there) (show _ = some 11 from refsuper_info) (sc_one _) ?_; have XF := XE.store (cs' := sc Sup.zero) rfl; have BF := Fr.below (B := w.heap.size) BE (Fr.cells _ w.heap.size 0 (sc Sup.zero)) BE.size (fun i hi => by rw [hi]; exact Nat.le_refl _); have hsame : (sc Sup.zero).toArray.toList = sc Sup.zero := rfl; rw [hsame]; clear hsame; obtain ⟨f0, f1, f2, f3, f4, f5, f6, f7, f8, f9, f10⟩ := XF.cells11; generalize World.setCells _ w.heap.size 0 (sc Sup.zero) = wF at *))
        refine bodyPost_ret (v := .tuple #[sv Sup.zero, .bool false]) (by simp [results, Try.results30, go_sem, sv, f0, f1, f2, f3, f4, f5, f6, f7, f8, f9, f10]) rfl ⟨?_, BF⟩
        rw [HIF.out]; rfl
theorem refsdecode_any (v : Value) (l : List Nat) (w : World) (h : Byt w v l) : Calls Try.prog 30 #[v] w (RDec l w) := by
  by_cases hl : l.length = 32
  · exact refsdecode_full v l w h hl
  · exact refsdecode_short v l w h hl
end Go.Proofs.Ytgnnkglmlopldaa
