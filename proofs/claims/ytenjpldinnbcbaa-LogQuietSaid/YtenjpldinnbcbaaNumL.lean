/- Merged: Num, Lib. -/
import Derived.Test.YtenjpldinnbcbaaProg
import Derived.WalkKit
import Derived.KernelRfl
import Derived.Lib.Hide
import Derived.Laws.CopyOwn
import Derived.Laws.AppendOwnNone
import Derived.BigQuiet
import Derived.Deep.QuietTactic
import Derived.Lib.SlBytesConst
/- Words on numbers: exclusive or of bytes, what is returned. Over any program. -/

namespace Go.Proofs.Ytenjpldinnbcbaa
open Go.RowKit
set_option linter.unusedVariables false
set_option linter.unusedSimpArgs false

theorem xor8 {a b : Nat} (ha : a < 256) (hb : b < 256) : a ^^^ b < 256 := Nat.xor_lt_two_pow (n := 8) ha hb
theorem bx8 {a b : Nat} (ha : a < 256) (hb : b < 256) : bits .xor .u8 (a : Int) (b : Int) = ((a ^^^ b : Nat) : Int) := by
  have h := xor8 ha hb
  show IntKind.u8.wrap ((BitVec.ofInt 8 (a : Int) ^^^ BitVec.ofInt 8 (b : Int)).toNat : Int) = _
  simp only [BitVec.ofInt_natCast, IntKind.wrap_u8, BitVec.toNat_xor, BitVec.toNat_ofNat]
  rw [Nat.mod_eq_of_lt (show a < 2 ^ 8 from ha), Nat.mod_eq_of_lt (show b < 2 ^ 8 from hb)]
  omega
theorem band1 {a : Nat} (ha : a < 256) : bits .and .u8 (a : Int) 1 = ((a % 2 : Nat) : Int) := by
  have e : (1 : Int) = ((1 : Nat) : Int) := rfl
  rw [e]
  show IntKind.u8.wrap ((BitVec.ofInt 8 (a : Int) &&& BitVec.ofInt 8 ((1 : Nat) : Int)).toNat : Int) = _
  simp only [BitVec.ofInt_natCast, IntKind.wrap_u8, BitVec.toNat_and, BitVec.toNat_ofNat]
  rw [Nat.mod_eq_of_lt (show a < 2 ^ 8 from ha), Nat.mod_eq_of_lt (show 1 < 2 ^ 8 by decide), Nat.and_one_is_mod]
  omega
theorem ret_u8 {a b : Int} (h : a = b) : Ending.returned (.int .u8 a) = .returned (.int .u8 b) := by rw [h]
theorem ret_i64 {a b : Int} (h : a = b) : Ending.returned (.int .i64 a) = .returned (.int .i64 b) := by rw [h]

theorem tmod_cases (n c : Int) : n.tmod c = if 0 ≤ n then n % c else -((-n) % c) := by
  split
  · exact Int.tmod_eq_emod_of_nonneg ‹_›
  · have := Int.neg_tmod (-n) c
    rw [Int.neg_neg] at this
    rw [this, Int.tmod_eq_emod_of_nonneg (by omega)]
theorem take_succ_get {α : Type} {l : List α} {k : Nat} {c : α} (h : l[k]? = some c) : l.take (k + 1) = l.take k ++ [c] := by
  rw [List.take_add_one, h]; rfl
theorem getD_get {α : Type} {l : List α} {k : Nat} (d : α) (h : k < l.length) : l[k]? = some (l.getD k d) := by simp [List.getD, h]
end Go.Proofs.Ytenjpldinnbcbaa
/- Readings of slices of bytes, and of slices of such slices, in memory; what keeps them. Over any program. -/

namespace Go.Proofs.Ytenjpldinnbcbaa
open Go.RowKit
set_option linter.unusedVariables false
set_option linter.unusedSimpArgs false

/-- the same world but for draws -/
def Dr (w w' : World) : Prop := ∃ q, w' = w.drewN q
theorem Dr.refl (w : World) : Dr w w := ⟨0, rfl⟩
theorem Dr.step {w w' : World} (h : Dr w w') (n : Nat) : Dr w (w'.drewN n) := by
  obtain ⟨q, rfl⟩ := h
  exact ⟨q + n, by simp [World.drewN, Nat.add_assoc]⟩
theorem Dr.trans {a b c : World} (h : Dr a b) (h' : Dr b c) : Dr a c := by
  obtain ⟨q, rfl⟩ := h'
  exact h.step q
theorem Dr.drew {w w' : World} (h : Dr w w') : Dr w w'.drew := h.step 1
theorem Dr.below {w w' : World} (h : Dr w w') (B : Nat) : Below B w w' := by
  obtain ⟨q, rfl⟩ := h
  exact ⟨rfl, rfl, rfl, Nat.le_refl _, fun _ _ => rfl⟩
theorem Dr.heap {w w' : World} (h : Dr w w') : w'.heap = w.heap := by
  obtain ⟨q, rfl⟩ := h
  rfl
theorem quietS {P : Program} {f : FuncId} {args : Array Value} {w : World} {n : Nat} {v : Value} (h : Calls P f args (w.drewN n) fun e w' => e = .returned v ∧ w.drewN n = w') :
    Calls P f args (w.drewN n) fun e w'' => e = .returned v ∧ ∃ m, w'' = w.drewN m := h.mono fun _ _ ⟨he, hm⟩ => ⟨he, n, hm.symm⟩
theorem quietD {P : Program} {f : FuncId} {args : Array Value} {w : World} {n : Nat} {v : Value} (h : Calls P f args (w.drewN n) fun e w' => e = .returned v ∧ Dr (w.drewN n) w') :
    Calls P f args (w.drewN n) fun e w'' => e = .returned v ∧ ∃ m, w'' = w.drewN m := h.mono fun _ _ ⟨he, q, hm⟩ => ⟨he, n + q, by rw [hm, World.drewN_drewN]⟩
theorem belDN {B : Nat} {a w : World} (h : Below B a w) (n : Nat) : Below B a (w.drewN n) := h.trans ⟨rfl, rfl, rfl, Nat.le_refl _, fun _ _ => rfl⟩
theorem belAlloc {a w : World} (h : Below a.heap.size a w) (o : Obj) : Below a.heap.size a (w.alloc o) := h.alloc h.size o
/-- the cells cs lie at the address ao -/
def At (w : World) (ao : Option Addr) (cs : List Value) : Prop :=
  cs = [] ∨ ∃ b off, ao = some ⟨b, off, none⟩ ∧ b < w.heap.size ∧ ∀ i, i < cs.length → w.cell? ⟨b, off + i, none⟩ = cs[i]?
def u8v (x : Nat) : Value := .int .u8 (x : Int)
/-- the value reads as the bytes l -/
def Byt (w : World) (v : Value) (l : List Nat) : Prop :=
  ∃ ao cap, v = .slice ao l.length cap ∧ l.length ≤ cap ∧ cap ≤ maxLen ∧ (ao = none → cap = 0) ∧ (∀ x ∈ l, x < 256) ∧ At w ao (l.map u8v)
/-- the value reads as the list of bytes' lists ls -/
def Parts (w : World) (v : Value) (ls : List (List Nat)) : Prop :=
  ∃ ao cap cs, v = .slice ao ls.length cap ∧ ls.length ≤ cap ∧ cap ≤ maxLen ∧ (ao = none → cap = 0) ∧ At w ao cs ∧ cs.length = ls.length ∧ ∀ i, i < ls.length → ∃ c, cs[i]? = some c ∧ Byt w c (ls.getD i [])

theorem At.cell {w : World} {ao : Option Addr} {cs : List Value} (h : At w ao cs) {k : Nat} (hk : k < cs.length) :
    ∃ b off c, ao = some ⟨b, off, none⟩ ∧ w.cell? ⟨b, off + k, none⟩ = some c ∧ cs[k]? = some c := by
  rcases h with rfl | ⟨b, off, rfl, _, hc⟩
  · simp at hk
  · exact ⟨b, off, cs[k], rfl, by rw [hc k hk, List.getElem?_eq_getElem hk], List.getElem?_eq_getElem hk⟩
theorem At.below {w w' : World} {ao : Option Addr} {cs : List Value} {B : Nat} (h : At w ao cs) (hb : Below B w w') (hB : w.heap.size ≤ B) : At w' ao cs := by
  rcases h with rfl | ⟨b, off, rfl, hlt, hc⟩
  · exact .inl rfl
  · exact .inr ⟨b, off, rfl, Nat.lt_of_lt_of_le hlt hb.size, fun i hi => by rw [hb.cell (by exact Nat.lt_of_lt_of_le hlt hB)]; exact hc i hi⟩
theorem At.kept {w w' : World} {ao : Option Addr} {cs : List Value} {row : Option Nat} (h : At w ao cs) (hg : w.grownBy w' row) (hne : ∀ a, ao = some a → row ≠ some a.block) : At w' ao cs := by
  rcases h with rfl | ⟨b, off, rfl, hlt, hc⟩
  · exact .inl rfl
  · exact .inr ⟨b, off, rfl, Nat.lt_of_lt_of_le hlt hg.size, fun i hi => by
      rw [World.cell?_of_block (hg.block b hlt (fun e => hne _ rfl e.symm))]; exact hc i hi⟩
theorem Byt.below {w w' : World} {v : Value} {l : List Nat} {B : Nat} (h : Byt w v l) (hb : Below B w w') (hB : w.heap.size ≤ B) : Byt w' v l := by
  obtain ⟨ao, cap, rfl, h1, h2, h0, h3, h4⟩ := h
  exact ⟨ao, cap, rfl, h1, h2, h0, h3, h4.below hb hB⟩
theorem Parts.below {w w' : World} {v : Value} {ls : List (List Nat)} {B : Nat} (h : Parts w v ls) (hb : Below B w w') (hB : w.heap.size ≤ B) : Parts w' v ls := by
  obtain ⟨ao, cap, cs, rfl, h1, h2, h0, h3, h4, h5⟩ := h
  exact ⟨ao, cap, cs, rfl, h1, h2, h0, h3.below hb hB, h4, fun i hi => let ⟨c, e, hc⟩ := h5 i hi; ⟨c, e, hc.below hb hB⟩⟩
theorem At.byte {w : World} {ao : Option Addr} {l : List Nat} (h : At w ao (l.map u8v)) (hl : ∀ x ∈ l, x < 256) {k : Nat} (hk : k < l.length) :
    ∃ b off x, ao = some ⟨b, off, none⟩ ∧ w.cell? ⟨b, off + k, none⟩ = some (.int .u8 (x : Nat)) ∧ Hid (l[k]? = some x) ∧ x < 256 := by
  obtain ⟨b, off, c, e, hc, hk2⟩ := h.cell (k := k) (by simpa using hk)
  rw [List.getElem?_map, List.getElem?_eq_getElem hk] at hk2
  simp only [Option.map_some, Option.some.injEq] at hk2
  exact ⟨b, off, l[k], e, by rw [hc, ← hk2]; rfl, List.getElem?_eq_getElem hk, hl _ (List.getElem_mem hk)⟩
/-- what is owned reads as such -/
theorem At.of_own {w : World} {base : Nat} {e : TypeId} {size n cap : Nat} {ao : Option Addr} {xs : List Value} (h : w.ownsRow base e size (.slice ao n cap) n xs) : At w ao xs := by
  obtain ⟨hl, h⟩ := h
  rcases h with ⟨hv, hn⟩ | ⟨g, cap', cur, hv, _, hg, _, _, hs, ht⟩
  · subst hn; exact .inl (List.eq_nil_of_length_eq_zero (by simpa using hl))
  · cases hv
    refine .inr ⟨g, 0, rfl, lt_of_block hg, fun i hi => ?_⟩
    rw [Nat.zero_add, cell_of_row w g i cur e (0, 0) hg, ← ht, List.getElem?_take_of_lt (by rw [hl] at hi; exact hi)]
    simp
/-- a list of bytes that the call owns, in a block from base on -/
def Own (w : World) (base : Nat) (v : Value) (l : List Nat) : Prop :=
  (∀ x ∈ l, x < 256) ∧ w.ownsRow base 5 1 v l.length (l.map u8v)
theorem Own.byt {w : World} {base : Nat} {v : Value} {l : List Nat} (h : Own w base v l) : Byt w v l := by
  obtain ⟨hl, h⟩ := h
  have h0 := h
  rcases h.2 with ⟨rfl, hn⟩ | ⟨g, cap, cur, rfl, _, hg, h1, h2, _, _⟩
  · have : l = [] := List.eq_nil_of_length_eq_zero hn
    subst this
    exact ⟨none, 0, rfl, Nat.le_refl _, by simp [maxLen], fun _ => rfl, hl, .inl rfl⟩
  · exact ⟨_, cap, rfl, h1, h2, (fun h => by cases h), hl, At.of_own h0⟩
theorem At.take {w : World} {ao : Option Addr} {cs : List Value} (h : At w ao cs) (k : Nat) : At w ao (cs.take k) := by
  rcases h with rfl | ⟨b, off, rfl, hlt, hc⟩
  · exact .inl (by simp)
  · refine .inr ⟨b, off, rfl, hlt, fun i hi => ?_⟩
    rw [List.length_take] at hi
    rw [hc i (by omega), List.getElem?_take_of_lt (by omega)]
theorem At.drop {w : World} {b off : Nat} {cs : List Value} (h : At w (some ⟨b, off, none⟩) cs) (k : Nat) : At w (some ⟨b, off + k, none⟩) (cs.drop k) := by
  rcases h with rfl | ⟨b', off', e, hlt, hc⟩
  · exact .inl (by simp)
  · cases e
    refine .inr ⟨b, off + k, rfl, hlt, fun i hi => ?_⟩
    rw [List.length_drop] at hi
    rw [Nat.add_assoc, hc (k + i) (by omega), List.getElem?_drop]
theorem At.some_of {w : World} {ao : Option Addr} {cs : List Value} (h : At w ao cs) (hn : 0 < cs.length) : ∃ b off, ao = some ⟨b, off, none⟩ ∧ b < w.heap.size := by
  rcases h with rfl | ⟨b, off, rfl, hlt, hc⟩
  · simp at hn
  · exact ⟨b, off, rfl, hlt⟩
theorem Byt.mk {w : World} {ao : Option Addr} {n cap : Nat} {l : List Nat} (hn : n = l.length) (h1 : n ≤ cap) (h2 : cap ≤ maxLen) (h3 : ao = none → cap = 0) (h4 : ∀ x ∈ l, x < 256) (h5 : At w ao (l.map u8v)) : Byt w (.slice ao n cap) l := by
  subst hn; exact ⟨ao, cap, rfl, h1, h2, h3, h4, h5⟩
theorem Byt.take {w : World} {b off n cap k c : Nat} {l : List Nat} (h : Byt w (.slice (some ⟨b, off, none⟩) n cap) l) (hk : k ≤ n) (hc : k ≤ c) (hm : c ≤ maxLen) : Byt w (.slice (some ⟨b, off, none⟩) k c) (l.take k) := by
  obtain ⟨ao, cap', e, h1, h2, h0, h3, h4⟩ := h
  cases e
  exact Byt.mk (by rw [List.length_take]; omega) hc hm (fun e => by cases e) (fun x hx => h3 x (List.mem_of_mem_take hx)) (by rw [List.map_take]; exact h4.take k)
theorem Byt.drop {w : World} {b off n cap k : Nat} {l : List Nat} (h : Byt w (.slice (some ⟨b, off, none⟩) n cap) l) (hk : k ≤ n) : Byt w (.slice (some ⟨b, off + k, none⟩) (n - k) (cap - k)) (l.drop k) := by
  obtain ⟨ao, cap', e, h1, h2, h0, h3, h4⟩ := h
  cases e
  exact Byt.mk (by rw [List.length_drop]) (by omega) (by omega) (fun e => by cases e) (fun x hx => h3 x (List.mem_of_mem_drop hx)) (by rw [List.map_drop]; exact h4.drop k)
theorem Byt.bytes {w : World} {v : Value} {l : List Nat} (h : Byt w v l) : ∀ x ∈ l, x < 256 := by
  obtain ⟨ao, cap, e, h1, h2, h0, h3, h4⟩ := h; exact h3
theorem Byt.len {w : World} {ao : Option Addr} {n cap : Nat} {l : List Nat} (h : Byt w (.slice ao n cap) l) : n = l.length := by
  obtain ⟨ao, cap, e, h1, h2, h0, h3, h4⟩ := h; cases e; rfl
theorem Byt.nil (w : World) : Byt w (.slice none 0 0) [] := ⟨none, 0, rfl, Nat.le_refl _, by simp [maxLen], fun _ => rfl, (fun x hx => by cases hx), .inl rfl⟩
theorem Parts.bytes {w : World} {v : Value} {ls : List (List Nat)} (h : Parts w v ls) : ∀ l ∈ ls, ∀ c ∈ l, c < 256 := by
  obtain ⟨ao, cap, cs, rfl, h1, h2, h0, h3, h4, h5⟩ := h
  intro l hl
  obtain ⟨i, hi, e⟩ := List.getElem_of_mem hl
  obtain ⟨c, hc, hb⟩ := h5 i hi
  have : ls.getD i [] = l := by rw [← e]; simp [List.getD, hi]
  exact this ▸ hb.bytes
theorem Parts.of_own {w : World} {base : Nat} {e : TypeId} {v : Value} {n : Nat} {cs : List Value} {ls : List (List Nat)} (h : w.ownsRow base e 1 v n cs) (hl : cs.length = ls.length)
    (hb : ∀ i, i < ls.length → ∃ c, cs[i]? = some c ∧ Byt w c (ls.getD i [])) : Parts w v ls := by
  have h0 := h
  obtain ⟨hlen, h⟩ := h
  rcases h with ⟨rfl, hn⟩ | ⟨g, cap, cur, rfl, _, hg, h1, h2, _, _⟩
  · subst hn
    have : cs = [] := List.eq_nil_of_length_eq_zero (by simpa using hlen)
    subst this
    have : ls = [] := List.eq_nil_of_length_eq_zero (by simpa using hl.symm)
    subst this
    exact ⟨none, 0, [], rfl, Nat.le_refl _, by simp [maxLen], fun _ => rfl, .inl rfl, rfl, (fun i hi => by simp at hi)⟩
  · have hn : n = ls.length := by rw [Nat.mul_one] at hlen; omega
    subst hn
    exact ⟨_, cap, cs, rfl, h1, h2, (fun e => by cases e), At.of_own h0, hl, hb⟩
theorem u8v_one (l : List Nat) : ∀ u ∈ l.map u8v, u.oneCell' = true := by
  intro u hu
  obtain ⟨x, _, rfl⟩ := List.mem_map.1 hu
  rfl
/-- append onto what the call owns, from whatever readable source -/
theorem wpList_append_at {P : Program} {w : World} {ops : Array Oper} {rest : List Oper} {o : Oper} {a : Act} {Q : Exit → Act → World → Prop} (hgd : o.guard = none) (s x : Operand) (t : TypeId)
    (ho : o.op = .call { callee := .builtin .append, args := #[s, x], argTypes := #[t, t] })
    (base : Nat) (e : TypeId) (i : TypeInfo) (z : Value) (size bytes : Nat) (ht : P.underlying t = some (.slice e)) (hi : P.info? e = some i) (hz : i.zero = some z)
    (hsize : i.size = size) (hby : i.bytes = bytes) (hzs : z.cells.size = size) (hsz : 0 < size)
    (v : Value) (n : Nat) (xs : List Value) (hs : a.eval s = v) (hown : w.ownsRow base e size v n xs)
    (ao : Option Addr) (m c : Nat) (news : List Value) (hx : a.eval x = .slice ao m c) (hnil : ao = none → c = 0) (hmc : m ≤ c) (hl : news.length = m * size) (hat : At w ao news) (h1 : ∀ u ∈ news, u.oneCell' = true)
    (h63 : n + m ≤ maxLen) (hbytes : (n + m) * bytes ≤ 140737488355328) (hbase : base ≤ w.heap.size)
    (h : ∀ v' w', w'.ownsRow base e size v' (n + m) (xs ++ news) → w.grownBy w' v.ownBlock → (v' = .slice none 0 0 ↔ v = .slice none 0 0 ∧ m = 0) → wpList P ops Q rest (a.put o.dst v') w') : wpList P ops Q (o :: rest) a w := by
  cases ao with
  | none =>
    have hc := hnil rfl
    subst hc
    obtain rfl : m = 0 := by omega
    have hn : news = [] := List.eq_nil_of_length_eq_zero (by simpa using hl)
    subst hn
    refine wpList_append_own_none hgd s x t ho base e i size ht hi v n xs hs hown hx ?_
    exact h v w (by simpa using hown) ⟨rfl, rfl, rfl, Nat.le_refl _, fun _ _ _ => rfl⟩ (by simp)
  | some ad =>
    refine wpList_append_own w hgd s x t ho base e i z size bytes ht hi hz hsize hby hzs hsz v n xs hs hown ad m c news hx hl ?_ h1 h63 hbytes hbase h
    intro j u hj
    rcases hat with rfl | ⟨b, off, e1, _, hc⟩
    · simp at hj
    · cases e1
      obtain ⟨hlt, hju⟩ := List.getElem?_eq_some_iff.1 hj
      rw [WideShapes.add_plain, hc j hlt]
      exact hj

/-- append onto nil, from whatever readable source -/
theorem wpList_append_nil_at {P : Program} {w : World} {ops : Array Oper} {rest : List Oper} {o : Oper} {a : Act} {Q : Exit → Act → World → Prop} (hgd : o.guard = none) (s x : Operand) (t : TypeId)
    (ho : o.op = .call { callee := .builtin .append, args := #[s, x], argTypes := #[t, t] })
    (base : Nat) (e : TypeId) (i : TypeInfo) (z : Value) (size bytes : Nat) (ht : P.underlying t = some (.slice e)) (hi : P.info? e = some i) (hz : i.zero = some z)
    (hsize : i.size = size) (hby : i.bytes = bytes) (hzs : z.cells.size = size) (hsz : 0 < size) (hs : a.eval s = .slice none 0 0)
    (ao : Option Addr) (m c : Nat) (news : List Value) (hx : a.eval x = .slice ao m c) (hnil : ao = none → c = 0) (hmc : m ≤ c) (hl : news.length = m * size) (hat : At w ao news) (h1 : ∀ u ∈ news, u.oneCell' = true)
    (h63 : m ≤ maxLen) (hbytes : m * bytes ≤ 140737488355328) (hbase : base ≤ w.heap.size)
    (h : ∀ v' w', w'.ownsRow base e size v' m news → w.grownBy w' none → wpList P ops Q rest (a.put o.dst v') w') : wpList P ops Q (o :: rest) a w :=
  wpList_append_at hgd s x t ho base e i z size bytes ht hi hz hsize hby hzs hsz (.slice none 0 0) 0 [] hs (World.ownsRow_nil _ _ _ _) ao m c news hx hnil hmc hl hat h1 (by simpa using h63) (by simpa using hbytes) hbase
    fun v' w' h2 h3 _ => h v' w' (by simpa using h2) h3
theorem own_shape {w : World} {base : Nat} {e : TypeId} {size : Nat} {v : Value} {n : Nat} {xs : List Value} (h : w.ownsRow base e size v n xs) (hn : 0 < n) :
    ∃ g cap, v = .slice (some ⟨g, 0, none⟩) n cap ∧ base ≤ g ∧ g < w.heap.size ∧ n ≤ cap ∧ cap ≤ maxLen := by
  rcases h.2 with ⟨_, h0⟩ | ⟨g, cap, cur, rfl, hb, hg, h1, h2, _⟩
  · omega
  · exact ⟨g, cap, rfl, hb, lt_of_block hg, h1, h2⟩
theorem byt_of_own {w : World} {base n : Nat} {v : Value} {l : List Nat} (hn : l.length = n) (h8 : ∀ x ∈ l, x < 256) (h : w.ownsRow base 5 1 v n (l.map u8v)) : Byt w v l := by
  subst hn; exact Own.byt ⟨h8, h⟩
/-! what stands above a world stays there -/
theorem belT {a b c : World} (h : Below a.heap.size a b) (k : Below b.heap.size b c) : Below a.heap.size a c := h.trans (k.mono h.size)
theorem belG {a b c : World} {v : Value} (h : Below a.heap.size a b) (hg : b.grownBy c v.ownBlock) (hv : ∀ g, v.ownBlock = some g → a.heap.size ≤ g) : Below a.heap.size a c := h.grown hg h.size hv
theorem belA1 {a b : World} (h : Below a.heap.size a b) {o1 : Obj} : Below a.heap.size a (b.alloc o1) := belAlloc h _
theorem belA2 {a b : World} (h : Below a.heap.size a b) {o1 o2 : Obj} : Below a.heap.size a ((b.alloc o1).alloc o2) := belAlloc (belAlloc h _) _
theorem belA3 {a b : World} (h : Below a.heap.size a b) {o1 o2 o3 : Obj} : Below a.heap.size a (((b.alloc o1).alloc o2).alloc o3) := belAlloc (belA2 h) _
theorem belA4 {a b : World} (h : Below a.heap.size a b) {o1 o2 o3 o4 : Obj} : Below a.heap.size a ((((b.alloc o1).alloc o2).alloc o3).alloc o4) := belAlloc (belA3 h) _
theorem belR (a : World) : Below a.heap.size a a := Below.refl _ _
theorem Byt.up {a b : World} {v : Value} {l : List Nat} (h : Byt a v l) (hb : Below a.heap.size a b) : Byt b v l := h.below hb (Nat.le_refl _)
theorem Parts.up {a b : World} {v : Value} {l : List (List Nat)} (h : Parts a v l) (hb : Below a.heap.size a b) : Parts b v l := h.below hb (Nat.le_refl _)
theorem Own.up {w w1 : World} {base : Nat} {v : Value} {l : List Nat} (h : Own w base v l) (hb : Below w.heap.size w w1) : Own w1 base v l := by
  refine ⟨h.1, h.2.1, ?_⟩
  rcases h.2.2 with h2 | ⟨g, cap, cur, rfl, h3, hg, r⟩
  · exact .inl h2
  · exact .inr ⟨g, cap, cur, rfl, h3, by rw [hb.block g (lt_of_block hg)]; exact hg, r⟩
theorem Own.shape {w : World} {base : Nat} {v : Value} {l : List Nat} (h : Own w base v l) (hn : 0 < l.length) : ∃ g cap, v = .slice (some ⟨g, 0, none⟩) l.length cap ∧ base ≤ g ∧ g < w.heap.size ∧ l.length ≤ cap ∧ cap ≤ maxLen := own_shape h.2 hn
theorem Own.ge {w : World} {base : Nat} {v : Value} {l : List Nat} (h : Own w base v l) : ∀ g, v.ownBlock = some g → base ≤ g := fun g hg => (h.2.lt g hg).1
theorem Own.lt {w : World} {base : Nat} {v : Value} {l : List Nat} (h : Own w base v l) : ∀ g, v.ownBlock = some g → g < w.heap.size := fun g hg => (h.2.lt g hg).2
theorem Own.apart {w w' : World} {base : Nat} {v u : Value} {l : List Nat} (h : Own w base v l) (hg : w.grownBy w' u.ownBlock) (hu : ∀ g, u.ownBlock = some g → g < base) : Own w' base v l := by
  refine ⟨h.1, h.2.kept hg ?_⟩
  cases hv : v.ownBlock with
  | none => exact .inl rfl
  | some g =>
    right
    intro e
    have h1 := h.ge g hv
    have h2 := hu g e.symm
    omega
theorem Parts.nil (w : World) : Parts w (.slice none 0 0) [] := ⟨none, 0, [], rfl, Nat.le_refl _, by simp [maxLen], fun _ => rfl, .inl rfl, rfl, fun i hi => by simp at hi⟩
theorem Parts.lit (w : World) (cs : Array Value) (e : TypeId) (ls : List (List Nat)) {n g : Nat} (hg : g = w.heap.size) (hn : n = cs.size) (hl : cs.size = ls.length) (hm : ls.length ≤ 1048576) (h : ∀ i, i < ls.length → ∃ c, cs.toList[i]? = some c ∧ Byt w c (ls.getD i [])) :
    Parts (w.alloc (.cells cs e)) (.slice (some ⟨g, 0, none⟩) n n) ls := by
  subst hn
  subst hg
  rw [hl]
  refine ⟨_, _, cs.toList, rfl, Nat.le_refl _, by simp [maxLen]; omega, (fun e => by cases e), .inr ⟨w.heap.size, 0, rfl, by simp, fun i hi => ?_⟩, by simpa using hl, fun i hi => ?_⟩
  · rw [Nat.zero_add, cell_of_row _ w.heap.size i cs e (0, 0) (heap_alloc_new w _)]; simp
  · obtain ⟨c, hc, hb⟩ := h i hi
    exact ⟨c, hc, hb.up (belAlloc (Below.refl _ _) _)⟩
theorem Parts.lit1 {w : World} {v : Value} {l : List Nat} {e : TypeId} {g : Nat} (hg : g = w.heap.size) (h : Byt w v l) : Parts (w.alloc (.cells #[v] e)) (.slice (some ⟨g, 0, none⟩) 1 1) [l] :=
  Parts.lit w _ e _ hg rfl rfl (by simp) fun i hi => match i, hi with | 0, _ => ⟨v, rfl, h⟩
theorem Parts.lit2 {w : World} {v1 v2 : Value} {l1 l2 : List Nat} {e : TypeId} {g : Nat} (hg : g = w.heap.size) (h1 : Byt w v1 l1) (h2 : Byt w v2 l2) : Parts (w.alloc (.cells #[v1, v2] e)) (.slice (some ⟨g, 0, none⟩) 2 2) [l1, l2] :=
  Parts.lit w _ e _ hg rfl rfl (by simp) fun i hi => match i, hi with | 0, _ => ⟨v1, rfl, h1⟩ | 1, _ => ⟨v2, rfl, h2⟩
theorem Parts.lit3 {w : World} {v1 v2 v3 : Value} {l1 l2 l3 : List Nat} {e : TypeId} {g : Nat} (hg : g = w.heap.size) (h1 : Byt w v1 l1) (h2 : Byt w v2 l2) (h3 : Byt w v3 l3) : Parts (w.alloc (.cells #[v1, v2, v3] e)) (.slice (some ⟨g, 0, none⟩) 3 3) [l1, l2, l3] :=
  Parts.lit w _ e _ hg rfl rfl (by simp) fun i hi => match i, hi with | 0, _ => ⟨v1, rfl, h1⟩ | 1, _ => ⟨v2, rfl, h2⟩ | 2, _ => ⟨v3, rfl, h3⟩
theorem Parts.lit4 {w : World} {v1 v2 v3 v4 : Value} {l1 l2 l3 l4 : List Nat} {e : TypeId} {g : Nat} (hg : g = w.heap.size) (h1 : Byt w v1 l1) (h2 : Byt w v2 l2) (h3 : Byt w v3 l3) (h4 : Byt w v4 l4) : Parts (w.alloc (.cells #[v1, v2, v3, v4] e)) (.slice (some ⟨g, 0, none⟩) 4 4) [l1, l2, l3, l4] :=
  Parts.lit w _ e _ hg rfl rfl (by simp) fun i hi => match i, hi with | 0, _ => ⟨v1, rfl, h1⟩ | 1, _ => ⟨v2, rfl, h2⟩ | 2, _ => ⟨v3, rfl, h3⟩ | 3, _ => ⟨v4, rfl, h4⟩
/-- bytes written out in the text -/
theorem Byt.lit (w : World) (cs : Array Value) (e : TypeId) (l : List Nat) {n g : Nat} {fr : Nat × Nat} (hg : g = w.heap.size) (hn : n = cs.size) (hl : cs.toList = l.map u8v) (h8 : ∀ x ∈ l, x < 256) (hm : l.length ≤ 1048576) :
    Byt (w.alloc (.cells cs e fr)) (.slice (some ⟨g, 0, none⟩) n n) l := by
  subst hn
  subst hg
  have hs : cs.size = l.length := by have := congrArg List.length hl; simpa using this
  rw [hs]
  refine Byt.mk rfl (Nat.le_refl _) (by simp [maxLen]; omega) (fun e => by cases e) h8 (.inr ⟨w.heap.size, 0, rfl, by simp, fun i hi => ?_⟩)
  rw [Nat.zero_add, cell_of_row _ w.heap.size i cs e fr (heap_alloc_new w _), ← hl]; simp
theorem Byt.shape {w : World} {v : Value} {l : List Nat} (h : Byt w v l) : ∃ ao cap, v = .slice ao l.length cap ∧ l.length ≤ cap ∧ cap ≤ 9223372036854775807 := by
  obtain ⟨ao, cap, rfl, h1, h2, _⟩ := h
  exact ⟨ao, cap, rfl, h1, h2⟩
theorem wrap64_of {x : Int} (h : -9223372036854775808 ≤ x ∧ x ≤ 9223372036854775807) : wrap64 x = x := by unfold wrap64; omega
theorem ret_u32 {a b : Int} (h : a = b) : Ending.returned (.int .u32 a) = .returned (.int .u32 b) := by rw [h]
theorem ret_bool {a b : Bool} (h : a = b) : Ending.returned (.bool a) = .returned (.bool b) := by rw [h]
theorem bx32 {a b : Nat} (ha : a < 4294967296) (hb : b < 4294967296) : bits .xor .u32 (a : Int) (b : Int) = ((a ^^^ b : Nat) : Int) := by
  have h : a ^^^ b < 2 ^ 32 := Nat.xor_lt_two_pow (n := 32) ha hb
  show IntKind.u32.wrap ((BitVec.ofInt 32 (a : Int) ^^^ BitVec.ofInt 32 (b : Int)).toNat : Int) = _
  simp only [BitVec.ofInt_natCast, IntKind.wrap_u32, BitVec.toNat_xor, BitVec.toNat_ofNat]
  rw [Nat.mod_eq_of_lt (show a < 2 ^ 32 from ha), Nat.mod_eq_of_lt (show b < 2 ^ 32 from hb)]
  omega
theorem band1_32 {a : Nat} (ha : a < 4294967296) : bits .and .u32 (a : Int) 1 = ((a % 2 : Nat) : Int) := by
  have e : (1 : Int) = ((1 : Nat) : Int) := rfl
  rw [e]
  show IntKind.u32.wrap ((BitVec.ofInt 32 (a : Int) &&& BitVec.ofInt 32 ((1 : Nat) : Int)).toNat : Int) = _
  simp only [BitVec.ofInt_natCast, IntKind.wrap_u32, BitVec.toNat_and, BitVec.toNat_ofNat]
  rw [Nat.mod_eq_of_lt (show a < 2 ^ 32 from ha), Nat.mod_eq_of_lt (show 1 < 2 ^ 32 by decide), Nat.and_one_is_mod]
  omega
theorem bor32 {a c : Nat} (ha : a * 256 < 4294967296) (hc : c < 256) : bits .or .u32 ((a : Int) * 256) (c : Int) = ((a * 256 + c : Nat) : Int) := by
  show IntKind.u32.wrap ((BitVec.ofInt 32 ((a : Int) * 256) ||| BitVec.ofInt 32 (c : Int)).toNat : Int) = _
  rw [show ((a : Int) * 256) = ((a * 256 : Nat) : Int) by omega]
  simp only [BitVec.ofInt_natCast, IntKind.wrap_u32, BitVec.toNat_or, BitVec.toNat_ofNat]
  rw [Nat.mod_eq_of_lt (show a * 256 < 2 ^ 32 from ha), Nat.mod_eq_of_lt (show c < 2 ^ 32 by omega)]
  have : a * 256 ||| c = a * 256 + c := by
    have := Nat.shiftLeft_add_eq_or_of_lt (b := c) (i := 8) hc a
    rw [Nat.shiftLeft_eq] at this
    exact this.symm
  rw [this]; omega
end Go.Proofs.Ytenjpldinnbcbaa
