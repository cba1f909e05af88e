/- Readings of slices of bytes, and of slices of such slices, in memory; what keeps them. Over any program. -/
import Derived.WalkKit
import Derived.KernelRfl
import Derived.Lib.Hide
import Derived.Laws.CopyOwn
import Derived.Laws.AppendOwnNone
import Derived.BigQuiet
import Derived.Deep.QuietTactic
namespace Go.Proofs.Ytghbbceephcifaa
open Go.RowKit
set_option linter.unusedVariables false
set_option linter.unusedSimpArgs false

/-- the same world but for draws -/
def Dr (w w' : World) : Prop := ∃ q, w' = w.drewN q
theorem Dr.refl (w : World) : Dr w w := ⟨0, rfl⟩
theorem Dr.step {w w' : World} (h : Dr w w') (n : Nat) : Dr w (w'.drewN n) := by
  obtain ⟨q, rfl⟩ := h
  exact ⟨q + n, by simp [World.drewN, Nat.add_assoc]⟩
theorem Dr.trans {a b c : World} (h : Dr a b) (h' : Dr b c) : Dr a c := by
  obtain ⟨q, rfl⟩ := h'
  exact h.step q
theorem Dr.drew {w w' : World} (h : Dr w w') : Dr w w'.drew := h.step 1
theorem Dr.below {w w' : World} (h : Dr w w') (B : Nat) : Below B w w' := by
  obtain ⟨q, rfl⟩ := h
  exact ⟨rfl, rfl, rfl, Nat.le_refl _, fun _ _ => rfl⟩
theorem Dr.heap {w w' : World} (h : Dr w w') : w'.heap = w.heap := by
  obtain ⟨q, rfl⟩ := h
  rfl
theorem quietS {P : Program} {f : FuncId} {args : Array Value} {w : World} {n : Nat} {v : Value} (h : Calls P f args (w.drewN n) fun e w' => e = .returned v ∧ w.drewN n = w') :
    Calls P f args (w.drewN n) fun e w'' => e = .returned v ∧ ∃ m, w'' = w.drewN m := h.mono fun _ _ ⟨he, hm⟩ => ⟨he, n, hm.symm⟩
theorem quietD {P : Program} {f : FuncId} {args : Array Value} {w : World} {n : Nat} {v : Value} (h : Calls P f args (w.drewN n) fun e w' => e = .returned v ∧ Dr (w.drewN n) w') :
    Calls P f args (w.drewN n) fun e w'' => e = .returned v ∧ ∃ m, w'' = w.drewN m := h.mono fun _ _ ⟨he, q, hm⟩ => ⟨he, n + q, by rw [hm, World.drewN_drewN]⟩
theorem belDN {B : Nat} {a w : World} (h : Below B a w) (n : Nat) : Below B a (w.drewN n) := h.trans ⟨rfl, rfl, rfl, Nat.le_refl _, fun _ _ => rfl⟩
theorem belAlloc {a w : World} (h : Below a.heap.size a w) (o : Obj) : Below a.heap.size a (w.alloc o) := h.alloc h.size o
/-- the cells cs lie at the address ao -/
def At (w : World) (ao : Option Addr) (cs : List Value) : Prop :=
  cs = [] ∨ ∃ b off, ao = some ⟨b, off, none⟩ ∧ b < w.heap.size ∧ ∀ i, i < cs.length → w.cell? ⟨b, off + i, none⟩ = cs[i]?
def u8v (x : Nat) : Value := .int .u8 (x : Int)
/-- the value reads as the bytes l -/
def Byt (w : World) (v : Value) (l : List Nat) : Prop :=
  ∃ ao cap, v = .slice ao l.length cap ∧ l.length ≤ cap ∧ cap ≤ maxLen ∧ (ao = none → cap = 0) ∧ (∀ x ∈ l, x < 256) ∧ At w ao (l.map u8v)
/-- the value reads as the list of bytes' lists ls -/
def Parts (w : World) (v : Value) (ls : List (List Nat)) : Prop :=
  ∃ ao cap cs, v = .slice ao ls.length cap ∧ ls.length ≤ cap ∧ cap ≤ maxLen ∧ (ao = none → cap = 0) ∧ At w ao cs ∧ cs.length = ls.length ∧ ∀ i, i < ls.length → ∃ c, cs[i]? = some c ∧ Byt w c (ls.getD i [])

theorem At.cell {w : World} {ao : Option Addr} {cs : List Value} (h : At w ao cs) {k : Nat} (hk : k < cs.length) :
    ∃ b off c, ao = some ⟨b, off, none⟩ ∧ w.cell? ⟨b, off + k, none⟩ = some c ∧ cs[k]? = some c := by
  rcases h with rfl | ⟨b, off, rfl, _, hc⟩
  · simp at hk
  · exact ⟨b, off, cs[k], rfl, by rw [hc k hk, List.getElem?_eq_getElem hk], List.getElem?_eq_getElem hk⟩
theorem At.below {w w' : World} {ao : Option Addr} {cs : List Value} {B : Nat} (h : At w ao cs) (hb : Below B w w') (hB : w.heap.size ≤ B) : At w' ao cs := by
  rcases h with rfl | ⟨b, off, rfl, hlt, hc⟩
  · exact .inl rfl
  · exact .inr ⟨b, off, rfl, Nat.lt_of_lt_of_le hlt hb.size, fun i hi => by rw [hb.cell (by exact Nat.lt_of_lt_of_le hlt hB)]; exact hc i hi⟩
theorem At.kept {w w' : World} {ao : Option Addr} {cs : List Value} {row : Option Nat} (h : At w ao cs) (hg : w.grownBy w' row) (hne : ∀ a, ao = some a → row ≠ some a.block) : At w' ao cs := by
  rcases h with rfl | ⟨b, off, rfl, hlt, hc⟩
  · exact .inl rfl
  · exact .inr ⟨b, off, rfl, Nat.lt_of_lt_of_le hlt hg.size, fun i hi => by
      rw [World.cell?_of_block (hg.block b hlt (fun e => hne _ rfl e.symm))]; exact hc i hi⟩
theorem Byt.below {w w' : World} {v : Value} {l : List Nat} {B : Nat} (h : Byt w v l) (hb : Below B w w') (hB : w.heap.size ≤ B) : Byt w' v l := by
  obtain ⟨ao, cap, rfl, h1, h2, h0, h3, h4⟩ := h
  exact ⟨ao, cap, rfl, h1, h2, h0, h3, h4.below hb hB⟩
theorem Parts.below {w w' : World} {v : Value} {ls : List (List Nat)} {B : Nat} (h : Parts w v ls) (hb : Below B w w') (hB : w.heap.size ≤ B) : Parts w' v ls := by
  obtain ⟨ao, cap, cs, rfl, h1, h2, h0, h3, h4, h5⟩ := h
  exact ⟨ao, cap, cs, rfl, h1, h2, h0, h3.below hb hB, h4, fun i hi => let ⟨c, e, hc⟩ := h5 i hi; ⟨c, e, hc.below hb hB⟩⟩
theorem At.byte {w : World} {ao : Option Addr} {l : List Nat} (h : At w ao (l.map u8v)) (hl : ∀ x ∈ l, x < 256) {k : Nat} (hk : k < l.length) :
    ∃ b off x, ao = some ⟨b, off, none⟩ ∧ w.cell? ⟨b, off + k, none⟩ = some (.int .u8 (x : Nat)) ∧ Hid (l[k]? = some x) ∧ x < 256 := by
  obtain ⟨b, off, c, e, hc, hk2⟩ := h.cell (k := k) (by simpa using hk)
  rw [List.getElem?_map, List.getElem?_eq_getElem hk] at hk2
  simp only [Option.map_some, Option.some.injEq] at hk2
  exact ⟨b, off, l[k], e, by rw [hc, ← hk2]; rfl, List.getElem?_eq_getElem hk, hl _ (List.getElem_mem hk)⟩
/-- what is owned reads as such -/
theorem At.of_own {w : World} {base : Nat} {e : TypeId} {size n cap : Nat} {ao : Option Addr} {xs : List Value} (h : w.ownsRow base e size (.slice ao n cap) n xs) : At w ao xs := by
  obtain ⟨hl, h⟩ := h
  rcases h with ⟨hv, hn⟩ | ⟨g, cap', cur, hv, _, hg, _, _, hs, ht⟩
  · subst hn; exact .inl (List.eq_nil_of_length_eq_zero (by simpa using hl))
  · cases hv
    refine .inr ⟨g, 0, rfl, lt_of_block hg, fun i hi => ?_⟩
    rw [Nat.zero_add, cell_of_row w g i cur e (0, 0) hg, ← ht, List.getElem?_take_of_lt (by rw [hl] at hi; exact hi)]
    simp
/-- a list of bytes that the call owns, in a block from base on -/
def Own (w : World) (base : Nat) (v : Value) (l : List Nat) : Prop :=
  (∀ x ∈ l, x < 256) ∧ w.ownsRow base 5 1 v l.length (l.map u8v)
theorem Own.byt {w : World} {base : Nat} {v : Value} {l : List Nat} (h : Own w base v l) : Byt w v l := by
  obtain ⟨hl, h⟩ := h
  have h0 := h
  rcases h.2 with ⟨rfl, hn⟩ | ⟨g, cap, cur, rfl, _, hg, h1, h2, _, _⟩
  · have : l = [] := List.eq_nil_of_length_eq_zero hn
    subst this
    exact ⟨none, 0, rfl, Nat.le_refl _, by simp [maxLen], fun _ => rfl, hl, .inl rfl⟩
  · exact ⟨_, cap, rfl, h1, h2, (fun h => by cases h), hl, At.of_own h0⟩
theorem u8v_one (l : List Nat) : ∀ u ∈ l.map u8v, u.oneCell' = true := by
  intro u hu
  obtain ⟨x, _, rfl⟩ := List.mem_map.1 hu
  rfl
/-- append onto what the call owns, from whatever readable source -/
theorem wpList_append_at {P : Program} {w : World} {ops : Array Oper} {rest : List Oper} {o : Oper} {a : Act} {Q : Exit → Act → World → Prop} (hgd : o.guard = none) (s x : Operand) (t : TypeId)
    (ho : o.op = .call { callee := .builtin .append, args := #[s, x], argTypes := #[t, t] })
    (base : Nat) (e : TypeId) (i : TypeInfo) (z : Value) (size bytes : Nat) (ht : P.underlying t = some (.slice e)) (hi : P.info? e = some i) (hz : i.zero = some z)
    (hsize : i.size = size) (hby : i.bytes = bytes) (hzs : z.cells.size = size) (hsz : 0 < size)
    (v : Value) (n : Nat) (xs : List Value) (hs : a.eval s = v) (hown : w.ownsRow base e size v n xs)
    (ao : Option Addr) (m c : Nat) (news : List Value) (hx : a.eval x = .slice ao m c) (hnil : ao = none → c = 0) (hmc : m ≤ c) (hl : news.length = m * size) (hat : At w ao news) (h1 : ∀ u ∈ news, u.oneCell' = true)
    (h63 : n + m ≤ maxLen) (hbytes : (n + m) * bytes ≤ 140737488355328) (hbase : base ≤ w.heap.size)
    (h : ∀ v' w', w'.ownsRow base e size v' (n + m) (xs ++ news) → w.grownBy w' v.ownBlock → (v' = .slice none 0 0 ↔ v = .slice none 0 0 ∧ m = 0) → wpList P ops Q rest (a.put o.dst v') w') : wpList P ops Q (o :: rest) a w := by
  cases ao with
  | none =>
    have hc := hnil rfl
    subst hc
    obtain rfl : m = 0 := by omega
    have hn : news = [] := List.eq_nil_of_length_eq_zero (by simpa using hl)
    subst hn
    refine wpList_append_own_none hgd s x t ho base e i size ht hi v n xs hs hown hx ?_
    exact h v w (by simpa using hown) ⟨rfl, rfl, rfl, Nat.le_refl _, fun _ _ _ => rfl⟩ (by simp)
  | some ad =>
    refine wpList_append_own w hgd s x t ho base e i z size bytes ht hi hz hsize hby hzs hsz v n xs hs hown ad m c news hx hl ?_ h1 h63 hbytes hbase h
    intro j u hj
    rcases hat with rfl | ⟨b, off, e1, _, hc⟩
    · simp at hj
    · cases e1
      obtain ⟨hlt, hju⟩ := List.getElem?_eq_some_iff.1 hj
      rw [WideShapes.add_plain, hc j hlt]
      exact hj
end Go.Proofs.Ytghbbceephcifaa
