/- Merged: Crc, CrcWalks, CrcRef. -/
import Derived.Test.YtenjpldinnbcbaaKeep
/- CRC-32C over plain numbers: sums of bytes, seals; one byte turned turns the sum. No Go, no memory, no condition. -/
namespace Go.Proofs.Ytenjpldinnbcbaa.C

def st1 (x : Nat) : Nat := if x % 2 = 1 then (x / 2) ^^^ 2197175160 else x / 2
def st : Nat → Nat → Nat
  | 0, x => x
  | n + 1, x => st n (st1 x)
/-- one byte more -/
def up (x c : Nat) : Nat := st 8 (x ^^^ c)
def crcF (x : Nat) (l : List Nat) : Nat := l.foldl up x
/-- the sum of all parts -/
def crc (ls : List (List Nat)) : Nat := crcF 4294967295 ls.flatten ^^^ 4294967295

theorem xor32 {a b : Nat} (ha : a < 4294967296) (hb : b < 4294967296) : a ^^^ b < 4294967296 := Nat.xor_lt_two_pow (n := 32) ha hb
theorem st1_lt {x : Nat} (h : x < 4294967296) : st1 x < 4294967296 := by
  unfold st1; split
  · exact xor32 (by omega) (by decide)
  · omega
theorem st_lt (n : Nat) : ∀ {x : Nat}, x < 4294967296 → st n x < 4294967296 := by
  induction n with
  | zero => intro x h; exact h
  | succ n ih => intro x h; exact ih (st1_lt h)
theorem up_lt {x c : Nat} (h : x < 4294967296) (hc : c < 256) : up x c < 4294967296 := st_lt 8 (xor32 h (by omega))
theorem crcF_lt (l : List Nat) : ∀ {x : Nat}, x < 4294967296 → (∀ c ∈ l, c < 256) → crcF x l < 4294967296 := by
  induction l with
  | nil => intro x h _; exact h
  | cons c l ih => intro x h hl; exact ih (up_lt h (hl c (.head _))) (fun d hd => hl d (.tail _ hd))
theorem crc_lt {ls : List (List Nat)} (h : ∀ l ∈ ls, ∀ c ∈ l, c < 256) : crc ls < 4294967296 :=
  xor32 (crcF_lt _ (by decide) (fun c hc => by obtain ⟨l, hl, hcl⟩ := List.mem_flatten.1 hc; exact h l hl c hcl)) (by decide)
theorem xor_cancel {a b c : Nat} (h : a ^^^ c = b ^^^ c) : a = b := by
  have := congrArg (· ^^^ c) h
  simpa [Nat.xor_assoc] using this
theorem xor_cancel_left {a b c : Nat} (h : c ^^^ a = c ^^^ b) : a = b := by
  rw [Nat.xor_comm c a, Nat.xor_comm c b] at h; exact xor_cancel h
theorem st1_top {x : Nat} (h : x < 4294967296) : (st1 x).testBit 31 = decide (x % 2 = 1) := by
  have hf : (x / 2).testBit 31 = false := Nat.testBit_lt_two_pow (by omega)
  unfold st1
  by_cases hx : x % 2 = 1
  · rw [if_pos hx, Nat.testBit_xor, hf]; simp [hx]; decide
  · rw [if_neg hx, hf]; simp [hx]
theorem st1_inj {x y : Nat} (hx : x < 4294967296) (hy : y < 4294967296) (h : st1 x = st1 y) : x = y := by
  have ht := st1_top hx
  rw [h, st1_top hy] at ht
  have hm : y % 2 = x % 2 := by
    have := decide_eq_decide.1 ht
    rcases Nat.mod_two_eq_zero_or_one x with a | a <;> rcases Nat.mod_two_eq_zero_or_one y with b | b <;> simp_all
  unfold st1 at h
  rw [hm] at h
  by_cases hx2 : x % 2 = 1
  · rw [if_pos hx2, if_pos hx2] at h
    have := xor_cancel h
    omega
  · rw [if_neg hx2, if_neg hx2] at h
    omega
theorem st_inj (n : Nat) : ∀ {x y : Nat}, x < 4294967296 → y < 4294967296 → st n x = st n y → x = y := by
  induction n with
  | zero => intro x y _ _ h; exact h
  | succ n ih => intro x y hx hy h; exact st1_inj hx hy (ih (st1_lt hx) (st1_lt hy) h)
theorem up_inj {x y c : Nat} (hx : x < 4294967296) (hy : y < 4294967296) (hc : c < 256) (h : up x c = up y c) : x = y :=
  xor_cancel (st_inj 8 (xor32 hx (by omega)) (xor32 hy (by omega)) h)
theorem up_inj_byte {x c d : Nat} (hx : x < 4294967296) (hc : c < 256) (hd : d < 256) (h : up x c = up x d) : c = d :=
  xor_cancel_left (st_inj 8 (xor32 hx (by omega)) (xor32 hx (by omega)) h)
theorem crcF_inj (l : List Nat) : ∀ {x y : Nat}, x < 4294967296 → y < 4294967296 → (∀ c ∈ l, c < 256) → crcF x l = crcF y l → x = y := by
  induction l with
  | nil => intro x y _ _ _ h; exact h
  | cons c l ih =>
    intro x y hx hy hl h
    have hc := hl c (.head _)
    exact up_inj hx hy hc (ih (up_lt hx hc) (up_lt hy hc) (fun d hd => hl d (.tail _ hd)) h)
theorem crcF_append (x : Nat) (l m : List Nat) : crcF x (l ++ m) = crcF (crcF x l) m := List.foldl_append
theorem crcF_turn {x c d : Nat} {p s : List Nat} (hx : x < 4294967296) (hp : ∀ c ∈ p, c < 256) (hs : ∀ c ∈ s, c < 256) (hc : c < 256) (hd : d < 256) (h : crcF x (p ++ c :: s) = crcF x (p ++ d :: s)) : c = d := by
  rw [crcF_append, crcF_append] at h
  have hx' := crcF_lt p hx hp
  exact up_inj_byte hx' hc hd (crcF_inj s (up_lt hx' hc) (up_lt hx' hd) hs h)
/-- one byte turned turns the sum -/
theorem crcF_set {x i c : Nat} {l : List Nat} (hx : x < 4294967296) (hl : ∀ c ∈ l, c < 256) (hi : i < l.length) (hc : c < 256) (h : crcF x (l.set i c) = crcF x l) : c = l[i] := by
  have e1 : l = l.take i ++ l[i] :: l.drop (i + 1) := by rw [List.getElem_cons_drop, List.take_append_drop]
  have e2 : l.set i c = l.take i ++ c :: l.drop (i + 1) := by rw [List.set_eq_take_append_cons_drop, if_pos hi]
  rw [e2] at h
  conv at h => rhs; rw [e1]
  exact crcF_turn hx (fun c hc => hl c (List.mem_of_mem_take hc)) (fun c hc => hl c (List.mem_of_mem_drop hc)) hc (hl _ (List.getElem_mem hi)) h
theorem crc_inj {ls ms : List (List Nat)} (h : crc ls = crc ms) : crcF 4294967295 ls.flatten = crcF 4294967295 ms.flatten := xor_cancel h

/-- four bytes of a number, the greatest first -/
def four (x : Nat) : List Nat := [x / 16777216 % 256, x / 65536 % 256, x / 256 % 256, x % 256]
def num (l : List Nat) : Nat := l.foldl (fun x c => x * 256 + c) 0
theorem four_len (x : Nat) : (four x).length = 4 := rfl
theorem four_byte (x : Nat) : ∀ c ∈ four x, c < 256 := by
  intro c hc
  simp [four] at hc
  omega
theorem num_four {x : Nat} (h : x < 4294967296) : num (four x) = x := by
  simp [num, four]
  omega
theorem four_num {a b c d : Nat} (ha : a < 256) (hb : b < 256) (hc : c < 256) (hd : d < 256) : four (num [a, b, c, d]) = [a, b, c, d] := by
  simp [num, four]
  omega
theorem four_num' {l : List Nat} (h4 : l.length = 4) (hl : ∀ c ∈ l, c < 256) : four (num l) = l := by
  match l, h4 with
  | [a, b, c, d], _ => exact four_num (hl a (by simp)) (hl b (by simp)) (hl c (by simp)) (hl d (by simp))
/-- a sector with its sum in the last four bytes -/
def sealed (b : List Nat) (ls : List (List Nat)) : List Nat := b.take 28 ++ four (crc (b.take 28 :: ls))
def rightB (b : List Nat) (ls : List (List Nat)) : Bool := b.length == 32 && num (b.drop 28) == crc (b.take 28 :: ls)
theorem sealed_len {b : List Nat} (ls : List (List Nat)) (h : b.length = 32) : (sealed b ls).length = 32 := by simp [sealed, four_len, h]
theorem sealed_byte {b : List Nat} {ls : List (List Nat)} (h : ∀ c ∈ b, c < 256) : ∀ c ∈ sealed b ls, c < 256 := by
  intro c hc
  rcases List.mem_append.1 hc with h1 | h1
  · exact h c (List.mem_of_mem_take h1)
  · exact four_byte _ c h1
theorem sealed_take {b : List Nat} (ls : List (List Nat)) (h : b.length = 32) : (sealed b ls).take 28 = b.take 28 := by
  unfold sealed; rw [List.take_append_of_le_length (by simp [h]), List.take_take]; rfl
theorem sealed_drop {b : List Nat} (ls : List (List Nat)) (h : b.length = 32) : (sealed b ls).drop 28 = four (crc (b.take 28 :: ls)) := by
  unfold sealed; rw [List.drop_append]; simp [h]
theorem sealed_idem {b : List Nat} (ls : List (List Nat)) (h : b.length = 32) : sealed (sealed b ls) ls = sealed b ls := by
  show (sealed b ls).take 28 ++ four (crc ((sealed b ls).take 28 :: ls)) = _
  rw [sealed_take ls h]; rfl
theorem right_iff {b : List Nat} {ls : List (List Nat)} (hb : ∀ c ∈ b, c < 256) (hl : ∀ l ∈ ls, ∀ c ∈ l, c < 256) : rightB b ls = true ↔ b.length = 32 ∧ sealed b ls = b := by
  have hlt : crc (b.take 28 :: ls) < 4294967296 := crc_lt (by
    intro l h c hc
    cases h with
    | head => exact hb c (List.mem_of_mem_take hc)
    | tail _ h => exact hl l h c hc)
  unfold rightB
  simp only [Bool.and_eq_true, beq_iff_eq]
  constructor
  · rintro ⟨h1, h2⟩
    refine ⟨h1, ?_⟩
    unfold sealed
    rw [← h2, four_num' (by simp [h1]) (fun c hc => hb c (List.mem_of_mem_drop hc)), List.take_append_drop]
  · rintro ⟨h1, h2⟩
    refine ⟨h1, ?_⟩
    have := sealed_drop ls h1
    rw [h2] at this
    rw [this, num_four hlt]
theorem right_sealed {b : List Nat} {ls : List (List Nat)} (h : b.length = 32) (hb : ∀ c ∈ b, c < 256) (hl : ∀ l ∈ ls, ∀ c ∈ l, c < 256) : rightB (sealed b ls) ls = true :=
  (right_iff (sealed_byte hb) hl).2 ⟨sealed_len ls h, sealed_idem ls h⟩
end Go.Proofs.Ytenjpldinnbcbaa.C
/- The walks of package crc and of the reference's sums: each function answers what the plain sums say. -/

namespace Go.Proofs.Ytenjpldinnbcbaa
open Go.RowKit C
set_option linter.unusedVariables false
set_option linter.unusedSimpArgs false
set_option maxRecDepth 100000
set_option maxHeartbeats 1000000

theorem crcF_snoc (x : Nat) (l : List Nat) (c : Nat) : crcF x (l ++ [c]) = up (crcF x l) c := by simp [crcF]
theorem sum_any (v : Value) (ls : List (List Nat)) (w : World) (h : Parts w v ls) :
    Calls Try.prog 122 #[v] w fun e w' => e = .returned (.int .u32 (crc ls : Nat)) ∧ w = w' := by
  have hbytes := Lib.hid h.bytes
  obtain ⟨ao, cap, cs, rfl, h1, h2, h0, hA, hl, hB⟩ := h
  have HL := Lib.hid hl
  have HB := Lib.hid hB
  unfold maxLen at h2
  clear hl hB h0
  go_enter Try.func122, Try.ntmps122
  go_wp2
  go_loop [3, 11] (fun x i => ∃ k x' : Nat, k ≤ ls.length ∧ x = .int .u32 x' ∧ i = .int .i64 k ∧ x' < 4294967296 ∧ Hid (crcF 4294967295 (ls.take k).flatten = x')) (fun _ i => ls.length - (intOf i).toNat)
  case atStart => exact ⟨0, 4294967295, Nat.zero_le _, rfl, rfl, by decide, Lib.hid rfl⟩
  case round =>
    obtain ⟨k, x, hk, rfl, rfl, hx, HX⟩ := hrel
    by_cases hlt : k < ls.length
    · obtain ⟨b, off, c, rfl, hc, hck⟩ := hA.cell (k := k) (by rw [HL.out]; exact hlt)
      obtain ⟨c', hc', hby⟩ := HB.out k hlt
      have e : c = c' := Option.some.inj (hck.symm.trans hc')
      subst e
      obtain ⟨l, hl⟩ : ∃ l, l = ls.getD k [] := ⟨_, rfl⟩
      rw [← hl] at hby
      have hlk : ls[k]? = some l := by rw [hl]; exact getD_get _ hlt
      have HK := Lib.hid hlk
      obtain ⟨ao', cap', rfl, g1, g2, g0, g3, gA⟩ := hby
      unfold maxLen at g2
      clear hck hc' hl hlk g0
      go_wp2
      go_loop [3, 17] (fun x i => ∃ j x' : Nat, j ≤ l.length ∧ x = .int .u32 x' ∧ i = .int .i64 j ∧ x' < 4294967296 ∧ Hid (crcF 4294967295 ((ls.take k).flatten ++ l.take j) = x')) (fun _ i => l.length - (intOf i).toNat)
      case atStart => exact ⟨0, x, Nat.zero_le _, rfl, rfl, hx, Lib.hid (by simpa using HX.out)⟩
      case round =>
        obtain ⟨j, y, hj, rfl, rfl, hy, HY⟩ := hrel
        by_cases hjt : j < l.length
        · obtain ⟨b', off', d, rfl, hd, hdk, hd8⟩ := gA.byte g3 hjt
          have hxc := bx32 (a := y) (b := d) hy (by omega)
          have hy2 : y ^^^ d < 4294967296 := xor32 hy (by omega)
          go_wp2
          go_loop [3, 25] (fun x i => ∃ n x' : Nat, n ≤ 8 ∧ x = .int .u32 x' ∧ i = .int .i64 n ∧ x' < 4294967296 ∧ Hid (st (8 - n) x' = up y d)) (fun _ i => 8 - (intOf i).toNat)
          case atStart => exact ⟨0, y ^^^ d, by decide, rfl, rfl, hy2, Lib.hid rfl⟩
          case round =>
            obtain ⟨n, z, hn, rfl, rfl, hz, HZ⟩ := hrel
            clear hxc
            by_cases hnt : n < 8
            · have hand := band1_32 hz
              have hzp := bx32 (a := z / 2) (b := 2197175160) (by omega) (by decide)
              have e2 : ((z / 2 : Nat) : Int) = (z : Int) / 2 := by omega
              rw [e2, show ((2197175160 : Nat) : Int) = 2197175160 from rfl] at hzp
              have hz2 := st1_lt hz
              have HN : Hid (st (8 - (n + 1)) (st1 z) = up y d) := by
                have := HZ.out
                rw [show 8 - n = (8 - (n + 1)) + 1 by omega] at this
                exact this
              clear HZ e2
              rcases Nat.mod_two_eq_zero_or_one z with hm | hm
              · have H1 : Hid (st1 z = z / 2) := Lib.hid (by unfold st1; rw [if_neg (by omega)])
                rw [hm] at hand
                clear hm
                go_wp2
                go_round
                case rel => exact ⟨n + 1, st1 z, by omega, by rw [H1.out]; go_num, by go_num, hz2, HN⟩
                case measure => simp [intOf]; omega
              · have H1 : Hid (st1 z = (z / 2) ^^^ 2197175160) := Lib.hid (by unfold st1; rw [if_pos hm])
                rw [hm] at hand
                clear hm
                go_wp2
                go_round
                case rel => exact ⟨n + 1, st1 z, by omega, by rw [H1.out], by go_num, hz2, HN⟩
                case measure => simp [intOf]; omega
            · have hn8 : n = 8 := by omega
              have HU : Hid (z = up y d) := Lib.hid (by have := HZ.out; rw [hn8] at this; exact this)
              clear hn8
              go_wp2
              go_round
              case rel => exact ⟨j + 1, z, by omega, rfl, by go_num, hz, Lib.hid (by rw [take_succ_get hdk.out, ← List.append_assoc, crcF_snoc, HY.out, HU.out])⟩
              case measure => simp [intOf]; omega
        · have hje : l.take j = l := List.take_of_length_le (by omega)
          have HJ := Lib.hid hje
          clear hje
          go_wp2
          go_round
          case rel => exact ⟨k + 1, y, by omega, rfl, by go_num, hy, Lib.hid (by rw [take_succ_get HK.out, List.flatten_append]; simpa [HJ.out] using HY.out)⟩
          case measure => simp [intOf]; omega
    · have hxo := bx32 (a := x) (b := 4294967295) hx (by decide)
      go_wp2
      go_ret
      refine ⟨ret_u32 ?_, rfl⟩
      have hke : ls.take k = ls := List.take_of_length_le (by omega)
      have := HX.out
      rw [hke] at this
      unfold crc
      rw [this]
      exact hxo

theorem parts_info : (Try.prog.info? 48).map (fun i => (i.zero, i.size, i.bytes)) = some (some (.slice none 0 0), 1, 24) := by kernel_rfl
/-- the cells of a slice of slices are each one cell -/
theorem cells_one {w : World} {cs : List Value} {ls : List (List Nat)} (hl : cs.length = ls.length) (hb : ∀ i, i < ls.length → ∃ c, cs[i]? = some c ∧ Byt w c (ls.getD i [])) : ∀ u ∈ cs, u.oneCell' = true := by
  intro u hu
  obtain ⟨i, hi, e⟩ := List.getElem_of_mem hu
  obtain ⟨c, hc, hby⟩ := hb i (by omega)
  obtain ⟨ao, cap, rfl, _⟩ := hby
  have := List.getElem?_eq_getElem hi
  rw [hc] at this
  rw [← e, ← Option.some.inj this]
  rfl
theorem cons_cells {w w1 : World} {v : Value} {l : List Nat} {cs : List Value} {ls : List (List Nat)} (hv : Byt w v l) (hb : ∀ i, i < ls.length → ∃ c, cs[i]? = some c ∧ Byt w c (ls.getD i [])) (h1 : Below w.heap.size w w1) :
    ∀ i, i < (l :: ls).length → ∃ c, ([v] ++ cs)[i]? = some c ∧ Byt w1 c ((l :: ls).getD i []) := by
  intro i hi
  cases i with
  | zero => exact ⟨v, rfl, hv.below h1 (Nat.le_refl _)⟩
  | succ i =>
    obtain ⟨c, hc, hby⟩ := hb i (by simpa using hi)
    exact ⟨c, by simpa using hc, by simpa [List.getD] using hby.below h1 (Nat.le_refl _)⟩
/-- the parts behind a first one, in new memory -/
theorem csum_any (v pv : Value) (l : List Nat) (ls : List (List Nat)) (w : World) (h : Byt w v l) (hl : l.length = 32) (hp : Parts w pv ls) (hn : ls.length ≤ 1048576) :
    Calls Try.prog 114 #[v, pv] w fun e w' => e = .returned (.int .u32 (crc (l.take 28 :: ls) : Nat)) ∧ Below w.heap.size w w' := by
  have hby := h
  obtain ⟨ao, cap, rfl, h1, h2, h0, h3, hA⟩ := h
  obtain ⟨b, off, rfl, hlt⟩ := hA.some_of (by simp [hl])
  rw [hl] at hby h1 ⊢
  have ht := Lib.hid (hby.take (k := 28) (c := 28) (by omega) (by omega) (by simp [maxLen]))
  obtain ⟨ao', cap', cs, rfl, g1, g2, g0, gA, gl, gB⟩ := hp
  have GL := Lib.hid gl
  have GB := Lib.hid gB
  have hone := Lib.hid (cells_one gl gB)
  obtain ⟨i0, hi, hz0, hz1, hz2⟩ := info_parts parts_info
  have hcap : 28 ≤ cap := by omega
  clear hl gl gB hby h0 h2 h3 hA
  go_enter Try.func114, Try.ntmps114
  go_wp2_with (first
    | (at_builtin; refine wpList_append_at rfl _ _ 31 rfl w.heap.size 48 i0 (.slice none 0 0) 1 24 Try.underlying31 hi hz0 hz1 hz2 rfl (by decide) _ _ _ rfl (World.ownsRow_lit w #[.slice (some ⟨b, off, none⟩) 28 28] 1 (Nat.le_refl _) (by simp [maxLen]) rfl) _ _ _ cs rfl g0 g1 (by rw [GL.out]; omega) (gA.below (belAlloc (Below.refl _ _) _) (Nat.le_refl _)) hone.out (by simp [maxLen]; omega) (by omega) (by simp) ?_; intro v' w1 hown hgrow _)
    | (go_at_call 122; have hb1 : Below w.heap.size w w1 := (belAlloc (Below.refl _ _) _).grown hgrow (by simp) (fun k hk => by cases hk; exact Nat.le_refl _); have hp1 : Parts w1 v' (l.take 28 :: ls) := Parts.of_own hown (by simp [GL.out]) (cons_cells ht.out GB.out hb1); refine (sum_any _ _ _ hp1).mono ?_; rintro e w' ⟨rfl, rfl⟩))
  go_ret
  exact ⟨rfl, hb1⟩

theorem seal_no (v pv : Value) (l : List Nat) (w : World) (h : Byt w v l) (hl : l.length ≠ 32) :
    Calls Try.prog 95 #[v, pv] w fun e w' => e = .returned (.bool false) ∧ w = w' := by
  obtain ⟨ao, cap, rfl, h1, h2, h0, h3, hA⟩ := h
  have hb : ((l.length : Int) != 32) = true := by rw [bne_iff_ne]; omega
  clear h0
  go_enter Try.func95, Try.ntmps95
  go_wp2
  go_ret
  exact ⟨rfl, rfl⟩
theorem Below.own {w w1 : World} {base n size : Nat} {e : TypeId} {v : Value} {xs : List Value} {B : Nat} (h : w.ownsRow base e size v n xs) (hb : Below B w w1) (hB : w.heap.size ≤ B) : w1.ownsRow base e size v n xs := by
  refine ⟨h.1, ?_⟩
  rcases h.2 with h2 | ⟨g, cap, cur, rfl, h3, hg, r⟩
  · exact .inl h2
  · exact .inr ⟨g, cap, cur, rfl, h3, by rw [hb.block g (Nat.lt_of_lt_of_le (lt_of_block hg) hB)]; exact hg, r⟩
theorem sealed_set {l : List Nat} (ls : List (List Nat)) (hl : l.length = 32) (a b c d : Nat) (h : four (crc (l.take 28 :: ls)) = [a, b, c, d]) :
    ((((l.map u8v).set 28 (u8v a)).set 29 (u8v b)).set 30 (u8v c)).set 31 (u8v d) = (sealed l ls).map u8v := by
  unfold sealed
  rw [h]
  obtain ⟨x1, x2, x3, x4, hd⟩ : ∃ x1 x2 x3 x4, l.drop 28 = [x1, x2, x3, x4] := by
    match hm : l.drop 28, (show (l.drop 28).length = 4 by simp [hl]) with
    | [x1, x2, x3, x4], _ => exact ⟨_, _, _, _, rfl⟩
  have hp : (l.take 28).length = 28 := by simp [hl]
  have e : l.map u8v = (l.take 28).map u8v ++ [u8v x1, u8v x2, u8v x3, u8v x4] := by
    conv => lhs; rw [← List.take_append_drop 28 l, hd, List.map_append]
    rfl
  rw [e]
  generalize l.take 28 = p at hp
  simp [List.set_append, hp]
theorem cell_ex {w : World} {base : Nat} {e : TypeId} {size g n cap : Nat} {xs : List Value} (h : w.ownsRow base e size (.slice (some ⟨g, 0, none⟩) n cap) n xs) (j : Nat) (hj : j < n * size) : ∃ v, w.cell? ⟨g, j, none⟩ = some v := by
  rw [h.cellAt j hj]
  exact ⟨_, List.getElem?_eq_getElem (by rw [h.1]; exact hj)⟩
theorem seal_yes (v pv : Value) (l : List Nat) (ls : List (List Nat)) (w : World) (base : Nat) (h : Own w base v l) (hl : l.length = 32) (hp : Parts w pv ls) (hn : ls.length ≤ 1048576) :
    Calls Try.prog 95 #[v, pv] w fun e w' => e = .returned (.bool true) ∧ Own w' base v (sealed l ls) ∧ w.grownBy w' v.ownBlock := by
  have hby := Lib.hid h.byt
  have hps := Lib.hid hp
  have hown := h.2
  have hl8 := h.1
  have hsl : Hid (∀ c ∈ sealed l ls, c < 256) := sealed_byte hl8
  have hown2 := hown.2
  rcases hown2 with ⟨_, hz⟩ | ⟨g, cap, cur, rfl, hbase, hg, hc1, hc2, hcs, htake⟩
  · omega
  have hlt := lt_of_block hg
  obtain ⟨x, hx⟩ : ∃ x, x = crc (l.take 28 :: ls) := ⟨_, rfl⟩
  have hx32 : x < 4294967296 := hx ▸ crc_lt (by
    intro m hm c hc
    cases hm with
    | head => exact hl8 c (List.mem_of_mem_take hc)
    | tail _ hm => exact hps.out.bytes m hm c hc)
  have hsum : ∀ w1 : World, w1 = w → Calls Try.prog 114 #[.slice (some ⟨g, 0, none⟩) 32 cap, pv] w1 fun e w' => e = .returned (.int .u32 (x : Nat)) ∧ Below w.heap.size w w' := by
    intro w1 e
    subst e
    have := csum_any _ _ l ls w1 hby.out hl hps.out hn
    rw [hl] at this
    exact hx ▸ this
  have HS := Lib.hid hsum
  have HX := Lib.hid hx
  rw [hl] at hown ⊢
  have HL := Lib.hid hl
  have HO := Lib.hid hown
  clear hl hown hg hcs htake h hp hsum hx
  go_enter Try.func95, Try.ntmps95
  go_wp2_with (go_at_call 114; refine (HS.out _ rfl).mono ?_; rintro e w1 ⟨rfl, hb1⟩)
  have HO1 := Lib.hid (Below.own HO.out hb1 (Nat.le_refl _))
  obtain ⟨o28, c28⟩ := cell_ex HO1.out 28 (by decide)
  obtain ⟨o29, c29⟩ := cell_ex HO1.out 29 (by decide)
  obtain ⟨o30, c30⟩ := cell_ex HO1.out 30 (by decide)
  obtain ⟨o31, c31⟩ := cell_ex HO1.out 31 (by decide)
  have f28 := HO1.out.frozenAt 28
  have f29 := HO1.out.frozenAt 29
  have f30 := HO1.out.frozenAt 30
  have f31 := HO1.out.frozenAt 31
  refine wp_loop_rounds 5 ?_
  iterate 4
    rw [rounds_succ]
    go_wp2
  rw [rounds_succ]
  go_wp2
  go_ret
  have e1 : Value.int IntKind.u8 ((x : Int) / 16777216) = u8v (x / 16777216 % 256) := by unfold u8v; congr 1; omega
  have e2 : Value.int IntKind.u8 ((x : Int) / 65536 % 256) = u8v (x / 65536 % 256) := by unfold u8v; congr 1
  have e3 : Value.int IntKind.u8 ((x : Int) / 256 % 256) = u8v (x / 256 % 256) := by unfold u8v; congr 1
  have e4 : Value.int IntKind.u8 ((x : Int) % 256) = u8v (x % 256) := by unfold u8v; congr 1
  refine ⟨rfl, ⟨hsl.out, ?_⟩, ?_⟩
  · have o := ((((HO1.out.stored 28 (u8v (x / 16777216 % 256))).1.stored 29 (u8v (x / 65536 % 256))).1.stored 30 (u8v (x / 256 % 256))).1.stored 31 (u8v (x % 256))).1
    rw [sealed_set ls HL.out _ _ _ _ (by rw [← HX.out]; rfl)] at o
    rw [e1, e2, e3, e4, sealed_len ls HL.out]
    exact o
  · exact ⟨hb1.os, hb1.tape, hb1.output, by simpa [World.setCell] using hb1.size, fun k hk hne => by
      have hkg : k ≠ g := fun e => hne (by rw [e]; rfl)
      rw [Below.heap_setCell _ _ _ _ hkg, Below.heap_setCell _ _ _ _ hkg, Below.heap_setCell _ _ _ _ hkg, Below.heap_setCell _ _ _ _ hkg, hb1.block k hk]⟩
theorem beq_cast (a b : Nat) : (((a : Nat) : Int) == ((b : Nat) : Int)) = (a == b) := by
  by_cases h : a = b
  · subst h; simp
  · have h1 : ((a : Int) == (b : Int)) = false := by rw [beq_eq_false_iff_ne]; omega
    have h2 : (a == b) = false := by rw [beq_eq_false_iff_ne]; exact h
    rw [h1, h2]
theorem num_snoc (l : List Nat) (c : Nat) : num (l ++ [c]) = num l * 256 + c := by simp [num]
theorem foldl_lt (l : List Nat) : ∀ x : Nat, (∀ c ∈ l, c < 256) → l.foldl (fun x c => x * 256 + c) x < (x + 1) * 256 ^ l.length := by
  induction l with
  | nil => intro x _; simp
  | cons c l ih =>
    intro x hl
    have h1 := ih (x * 256 + c) (fun d hd => hl d (.tail _ hd))
    have h2 := hl c (.head _)
    have h3 : (x * 256 + c + 1) * 256 ^ l.length ≤ ((x + 1) * 256) * 256 ^ l.length := Nat.mul_le_mul_right _ (by omega)
    rw [List.length_cons, Nat.pow_succ, Nat.mul_comm (256 ^ l.length) 256, ← Nat.mul_assoc]
    exact Nat.lt_of_lt_of_le h1 h3
theorem num_lt (l : List Nat) (hl : ∀ c ∈ l, c < 256) : num l < 256 ^ l.length := by
  have := foldl_lt l 0 hl
  rwa [Nat.zero_add, Nat.one_mul] at this
end Go.Proofs.Ytenjpldinnbcbaa
/- The walks of the reference's sums (wattleref01): the same plain sums. -/

namespace Go.Proofs.Ytenjpldinnbcbaa
open Go.RowKit C
set_option linter.unusedVariables false
set_option linter.unusedSimpArgs false
set_option maxRecDepth 100000
set_option maxHeartbeats 1000000

theorem refsum_any (v : Value) (ls : List (List Nat)) (w : World) (h : Parts w v ls) :
    Calls Try.prog 63 #[v] w fun e w' => e = .returned (.int .u32 (crc ls : Nat)) ∧ w = w' := by
  have hbytes := Lib.hid h.bytes
  obtain ⟨ao, cap, cs, rfl, h1, h2, h0, hA, hl, hB⟩ := h
  have HL := Lib.hid hl
  have HB := Lib.hid hB
  unfold maxLen at h2
  clear hl hB h0
  go_enter Try.func63, Try.ntmps63
  go_wp2
  go_loop [3, 11] (fun x i => ∃ k x' : Nat, k ≤ ls.length ∧ x = .int .u32 x' ∧ i = .int .i64 k ∧ x' < 4294967296 ∧ Hid (crcF 4294967295 (ls.take k).flatten = x')) (fun _ i => ls.length - (intOf i).toNat)
  case atStart => exact ⟨0, 4294967295, Nat.zero_le _, rfl, rfl, by decide, Lib.hid rfl⟩
  case round =>
    obtain ⟨k, x, hk, rfl, rfl, hx, HX⟩ := hrel
    by_cases hlt : k < ls.length
    · obtain ⟨b, off, c, rfl, hc, hck⟩ := hA.cell (k := k) (by rw [HL.out]; exact hlt)
      obtain ⟨c', hc', hby⟩ := HB.out k hlt
      have e : c = c' := Option.some.inj (hck.symm.trans hc')
      subst e
      obtain ⟨l, hl⟩ : ∃ l, l = ls.getD k [] := ⟨_, rfl⟩
      rw [← hl] at hby
      have hlk : ls[k]? = some l := by rw [hl]; exact getD_get _ hlt
      have HK := Lib.hid hlk
      obtain ⟨ao', cap', rfl, g1, g2, g0, g3, gA⟩ := hby
      unfold maxLen at g2
      clear hck hc' hl hlk g0
      go_wp2
      go_loop [3, 17] (fun x i => ∃ j x' : Nat, j ≤ l.length ∧ x = .int .u32 x' ∧ i = .int .i64 j ∧ x' < 4294967296 ∧ Hid (crcF 4294967295 ((ls.take k).flatten ++ l.take j) = x')) (fun _ i => l.length - (intOf i).toNat)
      case atStart => exact ⟨0, x, Nat.zero_le _, rfl, rfl, hx, Lib.hid (by simpa using HX.out)⟩
      case round =>
        obtain ⟨j, y, hj, rfl, rfl, hy, HY⟩ := hrel
        by_cases hjt : j < l.length
        · obtain ⟨b', off', d, rfl, hd, hdk, hd8⟩ := gA.byte g3 hjt
          have hxc := bx32 (a := y) (b := d) hy (by omega)
          have hy2 : y ^^^ d < 4294967296 := xor32 hy (by omega)
          go_wp2
          go_loop [3, 8] (fun x i => ∃ n x' : Nat, n ≤ 8 ∧ x = .int .u32 x' ∧ i = .int .i64 n ∧ x' < 4294967296 ∧ Hid (st (8 - n) x' = up y d)) (fun _ i => 8 - (intOf i).toNat)
          case atStart => exact ⟨0, y ^^^ d, by decide, rfl, rfl, hy2, Lib.hid rfl⟩
          case round =>
            obtain ⟨n, z, hn, rfl, rfl, hz, HZ⟩ := hrel
            clear hxc
            by_cases hnt : n < 8
            · have hand := band1_32 hz
              have hzp := bx32 (a := z / 2) (b := 2197175160) (by omega) (by decide)
              have e2 : ((z / 2 : Nat) : Int) = (z : Int) / 2 := by omega
              rw [e2, show ((2197175160 : Nat) : Int) = 2197175160 from rfl] at hzp
              have hz2 := st1_lt hz
              have HN : Hid (st (8 - (n + 1)) (st1 z) = up y d) := by
                have := HZ.out
                rw [show 8 - n = (8 - (n + 1)) + 1 by omega] at this
                exact this
              clear HZ e2
              rcases Nat.mod_two_eq_zero_or_one z with hm | hm
              · have H1 : Hid (st1 z = z / 2) := Lib.hid (by unfold st1; rw [if_neg (by omega)])
                rw [hm] at hand
                clear hm
                go_wp2
                go_round
                case rel => exact ⟨n + 1, st1 z, by omega, by rw [H1.out]; go_num, by go_num, hz2, HN⟩
                case measure => simp [intOf]; omega
              · have H1 : Hid (st1 z = (z / 2) ^^^ 2197175160) := Lib.hid (by unfold st1; rw [if_pos hm])
                rw [hm] at hand
                clear hm
                go_wp2
                go_round
                case rel => exact ⟨n + 1, st1 z, by omega, by rw [H1.out], by go_num, hz2, HN⟩
                case measure => simp [intOf]; omega
            · have hn8 : n = 8 := by omega
              have HU : Hid (z = up y d) := Lib.hid (by have := HZ.out; rw [hn8] at this; exact this)
              clear hn8
              go_wp2
              go_round
              case rel => exact ⟨j + 1, z, by omega, rfl, by go_num, hz, Lib.hid (by rw [take_succ_get hdk.out, ← List.append_assoc, crcF_snoc, HY.out, HU.out])⟩
              case measure => simp [intOf]; omega
        · have hje : l.take j = l := List.take_of_length_le (by omega)
          have HJ := Lib.hid hje
          clear hje
          go_wp2
          go_round
          case rel => exact ⟨k + 1, y, by omega, rfl, by go_num, hy, Lib.hid (by rw [take_succ_get HK.out, List.flatten_append]; simpa [HJ.out] using HY.out)⟩
          case measure => simp [intOf]; omega
    · have hxo := bx32 (a := 4294967295) (b := x) (by decide) hx
      rw [Nat.xor_comm] at hxo
      go_wp2
      go_ret
      refine ⟨ret_u32 ?_, rfl⟩
      have hke : ls.take k = ls := List.take_of_length_le (by omega)
      have := HX.out
      rw [hke] at this
      unfold crc
      rw [this]
      exact hxo

/-- a sector in new memory, its sum set -/
theorem sealed_any (v pv : Value) (l : List Nat) (ls : List (List Nat)) (w : World) (h : Byt w v l) (hl : l.length = 32) (hp : Parts w pv ls) (hn : ls.length ≤ 1048576) :
    Calls Try.prog 26 #[v, pv] w fun e w' => ∃ v', e = .returned v' ∧ Own w' w.heap.size v' (sealed l ls) ∧ Below w.heap.size w w' := by
  have hl8 := h.bytes
  have hsl : Hid (∀ c ∈ sealed l ls, c < 256) := sealed_byte hl8
  obtain ⟨x, hx⟩ : ∃ x, x = crc (l.take 28 :: ls) := ⟨_, rfl⟩
  have hx32 : x < 4294967296 := hx ▸ crc_lt (by
    intro m hm c hc
    cases hm with
    | head => exact hl8 c (List.mem_of_mem_take hc)
    | tail _ hm => exact hp.bytes m hm c hc)
  obtain ⟨ao, cap, rfl, h1, h2, h0, h3, hA⟩ := h
  obtain ⟨ao', cap', cs, rfl, g1, g2, g0, gA, gl, gB⟩ := hp
  have GL := Lib.hid gl
  have GB := Lib.hid gB
  have hone := Lib.hid (cells_one gl gB)
  obtain ⟨i0, hi, hz0, hz1, hz2⟩ := info_parts parts_info
  obtain ⟨j0, hj, hy0, hy1, hy2⟩ := info_parts uint8_info
  have HX := Lib.hid hx
  have HL := Lib.hid hl
  have H8 := Lib.hid hl8
  rw [hl] at h1 ⊢
  clear hl gl gB hx hl8 h3
  go_enter Try.func26, Try.ntmps26
  go_wp2_with (first
    | (at_builtin; refine wpList_append_nil_at rfl (.const (.slice none 0 0)) _ 48 rfl w.heap.size 5 j0 (.int .u8 0) 1 1 Try.underlying48 hj hy0 hy1 hy2 rfl (by decide) rfl _ _ _ (l.map u8v) rfl h0 h1 (by simp [HL.out]) hA (u8v_one _) (by simp [maxLen]) (by omega) (Nat.le_refl _) ?_; intro v1 w1 hown1 hgrow1; obtain ⟨g, cap1, rfl, hg1, hg2, hc1, hc2⟩ := own_shape hown1 (by decide); have hb1 : Below w.heap.size w w1 := (Below.refl _ _).grown hgrow1 (Nat.le_refl _) (fun k hk => by cases hk); have hsz1 := hb1.size; have HBy := Lib.hid ((byt_of_own HL.out H8.out hown1).take (k := 28) (c := cap1) (by decide) (by omega) hc2); have HO := Lib.hid hown1; clear hown1 hgrow1)
    | (at_builtin; refine wpList_append_at rfl (.tmp 11) _ 31 rfl w.heap.size 48 i0 (.slice none 0 0) 1 24 Try.underlying31 hi hz0 hz1 hz2 rfl (by decide) _ _ _ rfl (World.ownsRow_lit w1 #[.slice (some ⟨g, 0, none⟩) 28 cap1] 1 hsz1 (by simp [maxLen]) rfl) _ _ _ cs rfl g0 g1 (by rw [GL.out]; omega) ((gA.below hb1 (Nat.le_refl _)).below (belAlloc (Below.refl _ _) _) (Nat.le_refl _)) hone.out (by simp [maxLen]; omega) (by omega) (Nat.le_trans hsz1 (by simp)) ?_; intro v2 w2 hown2 hgrow2 _)
    | (go_at_call 63; have hb2 : Below w1.heap.size w1 w2 := (belAlloc (Below.refl _ _) _).grown hgrow2 (by simp) (fun k hk => by cases hk; exact Nat.le_refl _); have hp2 : Parts w2 v2 (l.take 28 :: ls) := Parts.of_own hown2 (by simp [GL.out]) (cons_cells HBy.out (fun i hi => let ⟨c, e, h⟩ := GB.out i hi; ⟨c, e, h.below hb1 (Nat.le_refl _)⟩) hb2); refine (refsum_any _ _ _ hp2).mono ?_; rw [← HX.out]; rintro e w' ⟨rfl, rfl⟩; have HO2 := Lib.hid (Below.own HO.out hb2 (Nat.le_refl _)); obtain ⟨o28, c28⟩ := cell_ex HO2.out 28 (by decide); obtain ⟨o29, c29⟩ := cell_ex HO2.out 29 (by decide); obtain ⟨o30, c30⟩ := cell_ex HO2.out 30 (by decide); obtain ⟨o31, c31⟩ := cell_ex HO2.out 31 (by decide); have f28 := HO2.out.frozenAt 28; have f29 := HO2.out.frozenAt 29; have f30 := HO2.out.frozenAt 30; have f31 := HO2.out.frozenAt 31))
  go_ret
  have e1 : Value.int IntKind.u8 ((x : Int) / 16777216) = u8v (x / 16777216 % 256) := by unfold u8v; congr 1; omega
  have e2 : Value.int IntKind.u8 ((x : Int) / 65536 % 256) = u8v (x / 65536 % 256) := by unfold u8v; congr 1
  have e3 : Value.int IntKind.u8 ((x : Int) / 256 % 256) = u8v (x / 256 % 256) := by unfold u8v; congr 1
  have e4 : Value.int IntKind.u8 ((x : Int) % 256) = u8v (x % 256) := by unfold u8v; congr 1
  refine ⟨_, rfl, ⟨hsl.out, ?_⟩, ?_⟩
  · have o := ((((HO2.out.stored 28 (u8v (x / 16777216 % 256))).1.stored 29 (u8v (x / 65536 % 256))).1.stored 30 (u8v (x / 256 % 256))).1.stored 31 (u8v (x % 256))).1
    rw [sealed_set ls HL.out _ _ _ _ (by rw [← HX.out]; rfl)] at o
    rw [e1, e2, e3, e4, sealed_len ls HL.out]
    exact o
  · exact ((((hb1.trans (hb2.mono hsz1)).setCell hg1 _).setCell hg1 _).setCell hg1 _).setCell hg1 _

theorem right_four {l : List Nat} {ls : List (List Nat)} (hb : ∀ c ∈ l, c < 256) (hls : ∀ m ∈ ls, ∀ c ∈ m, c < 256) (hl : l.length = 32) :
    ∃ a b c d x1 x2 x3 x4 : Nat, (sealed l ls)[28]? = some a ∧ (sealed l ls)[29]? = some b ∧ (sealed l ls)[30]? = some c ∧ (sealed l ls)[31]? = some d ∧
      l[28]? = some x1 ∧ l[29]? = some x2 ∧ l[30]? = some x3 ∧ l[31]? = some x4 ∧ rightB l ls = (a == x1 && (b == x2 && (c == x3 && d == x4))) := by
  obtain ⟨x1, x2, x3, x4, hd⟩ : ∃ x1 x2 x3 x4, l.drop 28 = [x1, x2, x3, x4] := by
    match hm : l.drop 28, (show (l.drop 28).length = 4 by simp [hl]) with
    | [x1, x2, x3, x4], _ => exact ⟨_, _, _, _, rfl⟩
  have g : ∀ (m : List Nat) (j : Nat), m[28 + j]? = (m.drop 28)[j]? := fun m j => by rw [List.getElem?_drop]
  have hs := sealed_drop ls hl
  obtain ⟨a, b, c, d, hf⟩ : ∃ a b c d, four (crc (l.take 28 :: ls)) = [a, b, c, d] := ⟨_, _, _, _, rfl⟩
  rw [hf] at hs
  refine ⟨a, b, c, d, x1, x2, x3, x4, ?_, ?_, ?_, ?_, ?_, ?_, ?_, ?_, ?_⟩
  · rw [g _ 0, hs]; rfl
  · rw [g _ 1, hs]; rfl
  · rw [g _ 2, hs]; rfl
  · rw [g _ 3, hs]; rfl
  · rw [g _ 0, hd]; rfl
  · rw [g _ 1, hd]; rfl
  · rw [g _ 2, hd]; rfl
  · rw [g _ 3, hd]; rfl
  · rw [Bool.eq_iff_iff, right_iff hb hls]
    simp only [hl, true_and, Bool.and_eq_true, beq_iff_eq]
    constructor
    · intro e
      rw [e, hd] at hs
      simp only [List.cons.injEq, and_true] at hs
      exact ⟨hs.1.symm, hs.2.1.symm, hs.2.2.1.symm, hs.2.2.2.symm⟩
    · rintro ⟨rfl, rfl, rfl, rfl⟩
      unfold sealed
      rw [hf, ← hd, List.take_append_drop]
theorem beqI_true {a b : Nat} (h : a = b) : (((a : Nat) : Int) == ((b : Nat) : Int)) = true := by rw [h]; simp
theorem beqI_false {a b : Nat} (h : a ≠ b) : (((a : Nat) : Int) == ((b : Nat) : Int)) = false := by rw [beq_eq_false_iff_ne]; omega
theorem refright_any (v pv : Value) (l : List Nat) (ls : List (List Nat)) (w : World) (h : Byt w v l) (hp : Parts w pv ls) (hn : ls.length ≤ 1048576) :
    Calls Try.prog 92 #[v, pv] w fun e w' => e = .returned (.bool (rightB l ls)) ∧ Below w.heap.size w w' := by
  by_cases hl : l.length = 32
  · have hseal := sealed_any v pv l ls w h hl hp hn
    obtain ⟨a, b, c, d, x1, x2, x3, x4, s1, s2, s3, s4, t1, t2, t3, t4, hr⟩ := right_four h.bytes hp.bytes hl
    have HS := Lib.hid hseal
    have HR := Lib.hid hr
    have hs32 := Lib.hid (sealed_len ls hl)
    obtain ⟨ao, cap, rfl, h1, h2, h0, h3, hA⟩ := h
    obtain ⟨bb, off, rfl, hlt⟩ := hA.some_of (by simp [hl])
    have cellof : ∀ (j x : Nat), l[j]? = some x → w.cell? ⟨bb, off + j, none⟩ = some (.int .u8 (x : Nat)) := by
      intro j x hj
      obtain ⟨hjl, e⟩ := List.getElem?_eq_some_iff.1 hj
      obtain ⟨b2, o2, c2, e2, hc, hk⟩ := hA.cell (k := j) (by simpa using hjl)
      cases e2
      rw [hc, ← hk, List.getElem?_map, hj]; rfl
    have k1 := cellof 28 x1 t1
    have k2 := cellof 29 x2 t2
    have k3 := cellof 30 x3 t3
    have k4 := cellof 31 x4 t4
    have K1 := Lib.hid k1
    have K2 := Lib.hid k2
    have K3 := Lib.hid k3
    have K4 := Lib.hid k4
    have S1 := Lib.hid s1
    have S2 := Lib.hid s2
    have S3 := Lib.hid s3
    have S4 := Lib.hid s4
    rw [hl] at HS h1 ⊢
    clear k1 k2 k3 k4 cellof hl hseal hr s1 s2 s3 s4 t1 t2 t3 t4 h2 h3 hA
    have fin : ∀ (B : Bool), (a == x1 && (b == x2 && (c == x3 && d == x4))) = B → (rightB l ls) = B := fun B hB => HR.out.trans hB
    have FIN := Lib.hid fin
    clear fin
    go_enter Try.func92, Try.ntmps92
    go_wp2_with (go_at_call 26; refine HS.out.mono ?_; rintro e w1 ⟨v1, rfl, ho, hb1⟩)
    have ho2 := ho.2
    rw [hs32.out] at ho2
    obtain ⟨g, cap1, rfl, hg1, hg2, hc1, hc2⟩ := own_shape ho2 (by decide)
    have own28 : ∀ (j x : Nat), (sealed l ls)[j]? = some x → j < 32 → w1.cell? ⟨g, j, none⟩ = some (.int .u8 (x : Nat)) := by
      intro j x hj hj2
      rw [ho2.cellAt j (by omega), List.getElem?_map, hj]; rfl
    have m1 := own28 28 a S1.out (by decide)
    have m2 := own28 29 b S2.out (by decide)
    have m3 := own28 30 c S3.out (by decide)
    have m4 := own28 31 d S4.out (by decide)
    have q1 := (hb1.cell (p := ⟨bb, off + 28, none⟩) hlt).trans K1.out
    have q2 := (hb1.cell (p := ⟨bb, off + 29, none⟩) hlt).trans K2.out
    have q3 := (hb1.cell (p := ⟨bb, off + 30, none⟩) hlt).trans K3.out
    have q4 := (hb1.cell (p := ⟨bb, off + 31, none⟩) hlt).trans K4.out
    clear own28 ho ho2 hlt
    by_cases e1 : a = x1
    · have b1 := beqI_true e1
      have E1 := Lib.hid e1
      clear e1
      by_cases e2 : b = x2
      · have b2 := beqI_true e2
        have E2 := Lib.hid e2
        clear e2
        by_cases e3 : c = x3
        · have b3 := beqI_true e3
          have E3 := Lib.hid e3
          clear e3
          by_cases e4 : d = x4
          · have b4 := beqI_true e4
            have E4 := Lib.hid e4
            clear e4
            go_wp2_with fail
            go_quiet (fail)
            go_wp2_with fail
            go_ret
            exact ⟨ret_bool (FIN.out true (by rw [E1.out, E2.out, E3.out, E4.out]; simp)).symm, belDN hb1 _⟩
          · have b4 := beqI_false e4
            have E4 := Lib.hid e4
            clear e4
            go_wp2_with fail
            go_quiet (fail)
            go_wp2_with fail
            go_ret
            exact ⟨ret_bool (FIN.out false (by simp [E4.out])).symm, belDN hb1 _⟩
        · have b3 := beqI_false e3
          have E3 := Lib.hid e3
          clear e3
          go_wp2_with fail
          go_quiet (fail)
          go_wp2_with fail
          go_ret
          exact ⟨ret_bool (FIN.out false (by simp [E3.out])).symm, belDN hb1 _⟩
      · have b2 := beqI_false e2
        have E2 := Lib.hid e2
        clear e2
        go_wp2_with fail
        go_quiet (fail)
        go_wp2_with fail
        go_ret
        exact ⟨ret_bool (FIN.out false (by simp [E2.out])).symm, belDN hb1 _⟩
    · have b1 := beqI_false e1
      have E1 := Lib.hid e1
      clear e1
      go_wp2_with fail
      go_quiet (fail)
      go_wp2_with fail
      go_ret
      exact ⟨ret_bool (FIN.out false (by simp [E1.out])).symm, belDN hb1 _⟩
  · obtain ⟨ao, cap, rfl, h1, h2, h0, h3, hA⟩ := h
    have hb : ((l.length : Int) != 32) = true := by rw [bne_iff_ne]; omega
    have HL := Lib.hid hl
    clear h0 hl
    go_enter Try.func92, Try.ntmps92
    go_wp2
    go_ret
    exact ⟨ret_bool (by unfold rightB; simp [HL.out]), Below.refl _ _⟩
end Go.Proofs.Ytenjpldinnbcbaa
