/- Boxes of two cells; an item changed; what holds of wattlelaw11.Of's record on the way. -/
import Derived.Test.YtenjpldinnbcbaaRecI
import Derived.Test.YtenjpldinnbcbaaSlG0
import Derived.Test.YtenjpldinnbcbaaPlay
import Derived.Test.YtenjpldinnbcbaaGeoA
namespace Go.Proofs.Ytenjpldinnbcbaa
open Go.RowKit C
set_option linter.unusedVariables false
set_option linter.unusedSimpArgs false
set_option maxRecDepth 100000
set_option maxHeartbeats 8000000

theorem Box.set {W : World} {g : Nat} {cs : List Value} (h : Box W g cs) (k : Nat) (v : Value) : Box (W.setCell ⟨g, k, none⟩ v) g (cs.set k v) := by
  refine ⟨fun j u hj => ?_, ?_⟩
  · rw [Nat.zero_add]
    by_cases hk : k = j
    · subst hk
      have hlt : k < cs.length := by
        have := (List.getElem?_eq_some_iff.1 hj).1
        simpa using this
      have h0 := h.range k cs[k] (List.getElem?_eq_getElem hlt)
      rw [Nat.zero_add] at h0
      rw [List.getElem?_set_self hlt] at hj
      cases hj
      exact World.cell?_setCell_same _ _ _ h0
    · rw [List.getElem?_set_ne hk] at hj
      have h0 := h.range j u hj
      rw [Nat.zero_add] at h0
      exact (World.cell?_setCell_other _ _ _ _ (by intro e; have := congrArg Addr.off e; simp at this; omega)).trans h0
  · rw [List.length_set]
    intro j hj
    obtain ⟨h1, h2⟩ := h.there j hj
    refine ⟨?_, by rw [World.frozen?_setCell]; exact h2⟩
    rw [Nat.zero_add] at h1 ⊢
    by_cases hk : k = j
    · subst hk
      obtain ⟨u, hu⟩ := Option.isSome_iff_exists.1 h1
      rw [World.cell?_setCell_same _ _ _ hu]; rfl
    · rw [World.cell?_setCell_other _ _ _ _ (by intro e; have := congrArg Addr.off e; simp at this; omega)]; exact h1
theorem Box.other {W : World} {g k o : Nat} {cs : List Value} {v : Value} (h : Box W g cs) (hne : g ≠ k) : Box (W.setCell ⟨k, o, none⟩ v) g cs := h.fr (Fr.cell ⟨k, o, none⟩ v) (by show ¬ g = k; exact hne)
theorem Box.two {W : World} {g : Nat} {x y : Value} (h : Box W g [x, y]) : (W.cell? ⟨g, 0, none⟩ = some x ∧ W.cell? ⟨g, 1, none⟩ = some y) ∧ W.frozen? ⟨g, 0, none⟩ = false ∧ W.frozen? ⟨g, 1, none⟩ = false := by
  have f := fun j (hj : j < 2) => there_frozen h.there (o := j) hj
  have c0 := h.range 0 x rfl
  have c1 := h.range 1 y rfl
  exact ⟨⟨by simpa using c0, by simpa using c1⟩, f 0 (by decide), f 1 (by decide)⟩
theorem OwnI.fr {e : TypeId} {S : Nat → Prop} {w w' : World} {base : Nat} {v : Value} {T : List (RI × Value)} (h : OwnI e w base v T) (k : Fr S w w') (hb : ∀ g, v.ownBlock = some g → ¬ S g) (hT : ∀ p ∈ T, ∀ g, p.2.ownBlock = some g → ¬ S g) : OwnI e w' base v T :=
  ⟨row_fr h.1 k hb, fun p hp => ⟨(h.2 p hp).1.fr k (hT p hp), (h.2 p hp).2⟩⟩
/-- one cell of an item changed, and a box behind that -/
theorem items_put {e : TypeId} {W : World} {B g n cap : Nat} {T : List (RI × Value)} {k : Nat} {p : RI × Value} (h : OwnI e W B (.slice (some ⟨g, 0, none⟩) n cap) T) (hp : T[k]? = some p) (hT : ∀ q ∈ T, ∀ b, q.2.ownBlock = some b → B ≤ b)
    (j : Nat) (hj : j < 3) (u : Value) (p' : RI × Value) (hp' : tcells p' = (tcells p).set j u) (hu : Byt W p'.2 p'.1.b) (hub : ∀ b, p'.2.ownBlock = some b → B ≤ b ∧ b ≠ g) (hi : i64b p'.1.d ∧ i64b p'.1.a) (r : Nat) (hr : r < B) (hg : B ≤ g) (s v : Value) :
    Items (((W.setCell ⟨g, k * 3 + j, none⟩ u).setCell ⟨r, 0, none⟩ s).setCell ⟨r, 1, none⟩ v) (.slice (some ⟨g, 0, none⟩) n cap) ((T.map Prod.fst).set k p'.1) := by
  obtain ⟨hl, hrow⟩ := h.1
  rcases hrow with ⟨e1, _⟩ | ⟨g', cap', cur, e1, h1, h2, h3, h4, h5, h6⟩
  · cases e1
  · cases e1
    have hgl := lt_of_block h2
    have F : Fr (fun b => b = g ∨ b = r) W (((W.setCell ⟨g, k * 3 + j, none⟩ u).setCell ⟨r, 0, none⟩ s).setCell ⟨r, 1, none⟩ v) :=
      (((Fr.cell (w := W) ⟨g, k * 3 + j, none⟩ u).mono (fun i hi => .inl hi)).trans ((Fr.cell ⟨r, 0, none⟩ s).mono (fun i hi => .inr hi))).trans ((Fr.cell ⟨r, 1, none⟩ v).mono (fun i hi => .inr hi))
    have hrg : r ≠ g := by omega
    have hc0 : ∀ o x, W.cell? ⟨g, o, none⟩ = some x → (((W.setCell ⟨g, k * 3 + j, none⟩ u).setCell ⟨r, 0, none⟩ s).setCell ⟨r, 1, none⟩ v).cell? ⟨g, o, none⟩ = some (if o = k * 3 + j then u else x) := by
      intro o x hx
      rw [World.cell?_setCell_other _ _ _ _ (by intro e; have := congrArg Addr.block e; simp at this; omega), World.cell?_setCell_other _ _ _ _ (by intro e; have := congrArg Addr.block e; simp at this; omega)]
      by_cases ho : o = k * 3 + j
      · subst ho
        rw [if_pos rfl]
        exact World.cell?_setCell_same _ _ _ hx
      · rw [if_neg ho, World.cell?_setCell_other _ _ _ _ (by intro e; have := congrArg Addr.off e; simp at this; omega)]
        exact hx
    have hlen : ((T.map Prod.fst).set k p'.1).length = T.length := by rw [List.length_set, List.length_map]
    refine ⟨some ⟨g, 0, none⟩, cap, by rw [hlen], by rw [hlen]; exact h3, h4, fun e => (by cases e), .inr ⟨g, 0, rfl, Nat.lt_of_lt_of_le hgl F.size, fun i x hx => ?_⟩⟩
    have hi2 := (List.getElem?_eq_some_iff.1 hx).1
    rw [hlen] at hi2
    obtain ⟨c0, c1, c2⟩ := h.cellsAt (List.getElem?_eq_getElem hi2)
    have d0 := hc0 _ _ c0
    have d1 := hc0 _ _ c1
    have d2 := hc0 _ _ c2
    by_cases hik : i = k
    · subst hik
      rw [List.getElem?_set_self (by rw [List.length_map]; exact hi2)] at hx
      cases hx
      have hpe : T[i] = p := by rw [List.getElem?_eq_getElem hi2] at hp; exact Option.some.inj hp
      rw [hpe] at d0 d1 d2
      have t0 := congrArg (fun l => l[0]?) hp'
      have t1 := congrArg (fun l => l[1]?) hp'
      have t2 := congrArg (fun l => l[2]?) hp'
      refine ⟨p'.2, ?_, ?_, ?_, hu.fr F (fun b hb e => by rcases e with e | e; exact (hub b hb).2 e; have := (hub b hb).1; omega), hi⟩
      · rw [Nat.zero_add, d0]
        match j, hj with
        | 0, _ => simp [tcells] at t0; simp; rw [t0]
        | 1, _ => simp [tcells] at t0; simp; rw [t0]
        | 2, _ => simp [tcells] at t0; simp; rw [t0]
      · rw [Nat.zero_add, d1]
        match j, hj with
        | 0, _ => simp [tcells] at t1; simp; rw [t1]
        | 1, _ => simp [tcells] at t1; simp; rw [t1]
        | 2, _ => simp [tcells] at t1; simp; rw [t1]
      · rw [Nat.zero_add, d2]
        match j, hj with
        | 0, _ => simp [tcells] at t2; simp; rw [t2]
        | 1, _ => simp [tcells] at t2; simp; rw [t2]
        | 2, _ => simp [tcells] at t2; simp; rw [t2]
    · rw [List.getElem?_set_ne (fun e => hik e.symm), List.getElem?_map, List.getElem?_eq_getElem hi2] at hx
      cases hx
      rw [if_neg (by omega)] at d0 d1 d2
      obtain ⟨g1, g2, g3⟩ := h.2 T[i] (List.getElem_mem hi2)
      refine ⟨T[i].2, by rw [Nat.zero_add]; exact d0, by rw [Nat.zero_add]; exact d1, by rw [Nat.zero_add]; exact d2, ?_, g2⟩
      rcases g3 with g3 | g3
      · obtain ⟨ao, c, e1, q1, q2, q3, q4, q5⟩ := g1
        rw [g3] at e1 q1 q4 ⊢
        exact ⟨ao, c, e1, q1, q2, q3, q4, .inl rfl⟩
      · exact g1.fr F (fun b hb e => by
          rcases e with e | e
          · exact g3 b hb (by rw [e]; rfl)
          · have := hT T[i] (List.getElem_mem hi2) b hb; omega)
/-- what holds of Of's record on the way: its box, its items -/
structure RS (w W : World) (s : Int) (v : Value) (T : List (RI × Value)) : Prop where
  box : Box W (w.heap.size + 1) [.int .i64 s, v]
  res : Box W w.heap.size [.int .i64 0, .slice none 0 0]
  own : OwnI 56 W (w.heap.size + 2) v T
  far : ∀ p ∈ T, p.1.b.length = 32 ∧ ∀ g, p.2.ownBlock = some g → w.heap.size + 2 ≤ g
  bel : Below w.heap.size w W
  siz : w.heap.size + 2 ≤ W.heap.size
theorem RS.below {w W W' : World} {s : Int} {v : Value} {T : List (RI × Value)} (h : RS w W s v T) (hb : Below W.heap.size W W') : RS w W' s v T :=
  ⟨h.box.fr (Fr.of_below (S := fun _ => False) hb) id, h.res.fr (Fr.of_below (S := fun _ => False) hb) id, h.own.up hb, h.far, belT h.bel hb, Nat.le_trans h.siz hb.size⟩
theorem RS.seq {w W : World} {s : Int} {v : Value} {T : List (RI × Value)} (h : RS w W s v T) (s' : Int) : RS w (W.setCell ⟨w.heap.size + 1, 0, none⟩ (.int .i64 s')) s' v T :=
  ⟨h.box.set 0 _, h.res.other (by omega), h.own.fr (Fr.cell _ _) (fun g hg e => by have := h.own.ge g hg; simp at e; omega) (fun p hp g hg e => by have := (h.far p hp).2 g hg; simp at e; omega), h.far, h.bel.setCell (by show w.heap.size ≤ w.heap.size + 1; omega) _, (show (W.setCell ⟨w.heap.size + 1, 0, none⟩ (.int .i64 s')).heap.size = W.heap.size by simp [World.setCell]).symm ▸ h.siz⟩
/-- the row that grew, stored into the box -/
theorem RS.row {w W W9 : World} {s : Int} {v v' : Value} {T T' : List (RI × Value)} (h : RS w W s v T) (hg : W.grownBy W9 v.ownBlock) (hO : OwnI 56 W9 (w.heap.size + 2) v' T') (hf : ∀ p ∈ T', p.1.b.length = 32 ∧ ∀ g, p.2.ownBlock = some g → w.heap.size + 2 ≤ g) :
    Box W9 (w.heap.size + 1) [.int .i64 s, v] ∧ RS w (W9.setCell ⟨w.heap.size + 1, 1, none⟩ v') s v' T' := by
  have hF := Fr.grown hg
  have b1 : Box W9 (w.heap.size + 1) [.int .i64 s, v] := h.box.fr hF (fun e => by have := h.own.ge _ e; omega)
  have b2 : Box W9 w.heap.size [.int .i64 0, .slice none 0 0] := h.res.fr hF (fun e => by have := h.own.ge _ e; omega)
  have hbel : Below w.heap.size w W9 := belG h.bel hg (fun g hg => by have := h.own.ge g hg; omega)
  refine ⟨b1, b1.set 1 _, b2.other (by omega), hO.fr (Fr.cell _ _) (fun g hg e => by have := hO.ge g hg; simp at e; omega) (fun p hp g hg e => by have := (hf p hp).2 g hg; simp at e; omega), hf, hbel.setCell (by show w.heap.size ≤ w.heap.size + 1; omega) _, ?_⟩
  have : (W9.setCell ⟨w.heap.size + 1, 1, none⟩ v').heap.size = W9.heap.size := by simp [World.setCell]
  rw [this]
  exact Nat.le_trans h.siz hg.size
def SomeRec (w : World) (e : Ending) (w' : World) : Prop := ∃ (s : Int) (v : Value) (l : List RI), e = .returned (.agg #[.int .i64 s, v]) ∧ i64b s ∧ Items w' v l ∧ l.length ≤ 6 ∧ Below w.heap.size w w'
def OfR (w W : World) : Prop := ∃ s v T, i64b s ∧ RS w W s v T ∧ T.length ≤ 6
theorem OwnI.free {e : TypeId} {w : World} {base g n cap : Nat} {T : List (RI × Value)} (h : OwnI e w base (.slice (some ⟨g, 0, none⟩) n cap) T) (o : Nat) : w.frozen? ⟨g, o, none⟩ = false := by
  rcases h.1.2 with ⟨e1, _⟩ | ⟨g', cap', cur, e1, h1, h2, _⟩
  · cases e1
  · cases e1
    unfold World.frozen?
    show (match w.heap[g]? with | some (.cells _ _ (lo, hi)) => _ | _ => _) = _
    rw [h2]
    simp
/-- append(items, the same items...) -/
theorem wpList_append_self {P : Program} {w : World} {ops : Array Oper} {rest : List Oper} {o : Oper} {a : Act} {Q : Exit → Act → World → Prop} (hgd : o.guard = none) (s x : Operand) (t e : TypeId)
    (ho : o.op = .call { callee := .builtin .append, args := #[s, x], argTypes := #[t, t] })
    (i : TypeInfo) (z : Value) (ht : P.underlying t = some (.slice e)) (hi : P.info? e = some i) (hz : i.zero = some z) (hsize : i.size = 3) (hby : i.bytes = 40) (hzs : z.cells.size = 3)
    (base : Nat) (v : Value) (T : List (RI × Value)) (hs : a.eval s = v) (hown : OwnI e w base v T) (hx : a.eval x = v)
    (h63 : T.length ≤ 1000) (hbase : base ≤ w.heap.size)
    (h : ∀ v' w', OwnI e w' base v' (T ++ T) → w.grownBy w' v.ownBlock → wpList P ops Q rest (a.put o.dst v') w') : wpList P ops Q (o :: rest) a w := by
  have hrow := hown.1.2
  rcases hrow with ⟨rfl, hn⟩ | ⟨g, cap, cur, rfl, hb, hg, r⟩
  · have hT : T = [] := List.eq_nil_of_length_eq_zero hn
    subst hT
    refine wpList_append_own_none hgd s x t ho base e i 3 ht hi (.slice none 0 0) 0 [] hs (World.ownsRow_nil _ _ _ _) hx ?_
    exact h _ w (OwnI.nil e w base) ⟨rfl, rfl, rfl, Nat.le_refl _, fun _ _ _ => rfl⟩
  · exact wpList_append_items hgd s x t e ho i z ht hi hz hsize hby hzs base _ T hs hown ⟨g, 0, none⟩ T.length cap T hx rfl (hown.1.cells rfl) hown.2 (by omega) hbase (fun v' w' h1 h2 _ => h v' w' h1 h2)
theorem Byt.takeV {w : World} {a : Option Addr} {n c k : Nat} {l : List Nat} (h : Byt w (.slice a n c) l) (hk : k ≤ n) : Byt w (.slice a k c) (l.take k) := by
  have hn := h.len
  obtain ⟨ao, cap, e, h1, h2, h0, h3, hA⟩ := h
  cases e
  have hl : (l.take k).length = k := by rw [List.length_take]; omega
  refine ⟨a, c, by rw [hl], by omega, h2, h0, fun x hx => h3 x (List.mem_of_mem_take hx), ?_⟩
  rw [List.map_take]
  exact hA.take k
theorem own_len (a : Option Addr) (n m c c' : Nat) : (Value.slice a n c).ownBlock = (Value.slice a m c').ownBlock := by cases a <;> rfl
def OfR3 (w W : World) : Prop := ∃ s v T, i64b s ∧ RS w W s v T ∧ T.length ≤ 3
end Go.Proofs.Ytenjpldinnbcbaa
