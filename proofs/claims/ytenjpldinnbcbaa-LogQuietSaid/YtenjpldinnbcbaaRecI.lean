/- Items that are owned: rows of three cells each; append of items; the walk of wattlelaw11.Ref. -/
import Derived.Test.YtenjpldinnbcbaaRecM
import Derived.Test.YtenjpldinnbcbaaOwnD
import Derived.Test.YtenjpldinnbcbaaMoreF
namespace Go.Proofs.Ytenjpldinnbcbaa
open Go.RowKit C
set_option linter.unusedVariables false
set_option linter.unusedSimpArgs false
set_option maxRecDepth 100000
set_option maxHeartbeats 4000000

def tcells (p : RI × Value) : List Value := [.int .i64 p.1.d, .int .i64 p.1.a, p.2]
/-- an item and its bytes' value, not in the block of v -/
def Goodp (w : World) (v : Value) (p : RI × Value) : Prop := Byt w p.2 p.1.b ∧ (i64b p.1.d ∧ i64b p.1.a) ∧ (p.1.b = [] ∨ ∀ g, p.2.ownBlock = some g → v.ownBlock ≠ some g)
def OwnI (e : TypeId) (w : World) (base : Nat) (v : Value) (T : List (RI × Value)) : Prop := w.ownsRow base e 3 v T.length (T.flatMap tcells) ∧ ∀ p ∈ T, Goodp w v p
theorem tcells_len (T : List (RI × Value)) : (T.flatMap tcells).length = T.length * 3 := by
  induction T with
  | nil => rfl
  | cons p T ih => rw [List.flatMap_cons, List.length_append, ih, List.length_cons]; show 3 + _ = _; omega
theorem tcells_get : ∀ (T : List (RI × Value)) (i : Nat) (p : RI × Value), T[i]? = some p → (T.flatMap tcells)[i * 3]? = some (.int .i64 p.1.d) ∧ (T.flatMap tcells)[i * 3 + 1]? = some (.int .i64 p.1.a) ∧ (T.flatMap tcells)[i * 3 + 2]? = some p.2 := by
  intro T
  induction T with
  | nil => intro i p h; cases h
  | cons q T ih =>
    intro i p h
    rw [List.flatMap_cons]
    cases i with
    | zero => cases h; exact ⟨rfl, rfl, rfl⟩
    | succ i =>
      have := ih i p h
      rw [show (i + 1) * 3 = i * 3 + 1 + 1 + 1 by omega, show tcells q ++ T.flatMap tcells = .int .i64 q.1.d :: .int .i64 q.1.a :: q.2 :: T.flatMap tcells from rfl]
      refine ⟨this.1, ?_, ?_⟩
      · rw [show i * 3 + 1 + 1 + 1 + 1 = (i * 3 + 1) + 1 + 1 + 1 by omega]; exact this.2.1
      · rw [show i * 3 + 1 + 1 + 1 + 2 = (i * 3 + 2) + 1 + 1 + 1 by omega]; exact this.2.2
theorem Byt.one {w : World} {v : Value} {l : List Nat} (h : Byt w v l) : v.oneCell' = true := by
  obtain ⟨ao, cap, rfl, _⟩ := h; rfl
theorem tcells_one {w : World} {v : Value} {T : List (RI × Value)} (h : ∀ p ∈ T, Goodp w v p) : ∀ u ∈ T.flatMap tcells, u.oneCell' = true := by
  intro u hu
  obtain ⟨p, hp, hup⟩ := List.mem_flatMap.1 hu
  simp only [tcells, List.mem_cons, List.not_mem_nil, or_false] at hup
  rcases hup with rfl | rfl | rfl
  · rfl
  · rfl
  · exact (h p hp).1.one
theorem Byt.keptB {w w' : World} {u : Value} {b : List Nat} {row : Option Nat} (h : Byt w u b) (hg : w.grownBy w' row) (hne : b = [] ∨ ∀ g, u.ownBlock = some g → row ≠ some g) : Byt w' u b := by
  obtain ⟨ao, cap, rfl, h1, h2, h0, h3, hA⟩ := h
  refine ⟨ao, cap, rfl, h1, h2, h0, h3, ?_⟩
  rcases hne with rfl | hne
  · exact .inl rfl
  · exact hA.kept hg (fun a ha => hne _ (by rw [ha]; rfl))
theorem Byt.block_lt {w : World} {u : Value} {b : List Nat} (h : Byt w u b) (hb : b ≠ []) : ∀ g, u.ownBlock = some g → g < w.heap.size := by
  obtain ⟨ao, cap, rfl, h1, h2, h0, h3, hA⟩ := h
  intro g hg
  rcases hA with hA | ⟨b', off, rfl, hlt, _⟩
  · exact absurd (by simpa using hA) hb
  · cases hg; exact hlt
theorem Goodp.up {w w' : World} {v : Value} {p : RI × Value} (h : Goodp w v p) (hb : Below w.heap.size w w') : Goodp w' v p := ⟨h.1.up hb, h.2⟩
theorem OwnI.nil (e : TypeId) (w : World) (base : Nat) : OwnI e w base (.slice none 0 0) [] := ⟨World.ownsRow_nil _ _ _ _, fun p hp => by cases hp⟩
theorem OwnI.up {e : TypeId} {w w' : World} {base : Nat} {v : Value} {T : List (RI × Value)} (h : OwnI e w base v T) (hb : Below w.heap.size w w') : OwnI e w' base v T := ⟨row_up h.1 hb, fun p hp => (h.2 p hp).up hb⟩
theorem OwnI.ge {e : TypeId} {w : World} {base : Nat} {v : Value} {T : List (RI × Value)} (h : OwnI e w base v T) : ∀ g, v.ownBlock = some g → base ≤ g := fun g hg => (h.1.lt g hg).1
theorem OwnI.lt {e : TypeId} {w : World} {base : Nat} {v : Value} {T : List (RI × Value)} (h : OwnI e w base v T) : ∀ g, v.ownBlock = some g → g < w.heap.size := fun g hg => (h.1.lt g hg).2
theorem OwnI.cellsAt {e : TypeId} {w : World} {base g n cap : Nat} {T : List (RI × Value)} (h : OwnI e w base (.slice (some ⟨g, 0, none⟩) n cap) T) {i : Nat} {p : RI × Value} (hp : T[i]? = some p) :
    w.cell? ⟨g, i * 3, none⟩ = some (.int .i64 p.1.d) ∧ w.cell? ⟨g, i * 3 + 1, none⟩ = some (.int .i64 p.1.a) ∧ w.cell? ⟨g, i * 3 + 2, none⟩ = some p.2 := by
  have hi := (List.getElem?_eq_some_iff.1 hp).1
  obtain ⟨h1, h2, h3⟩ := tcells_get T i p hp
  have hc := h.1.cells (g := g) rfl
  refine ⟨?_, ?_, ?_⟩
  · have := hc _ _ h1; rwa [Addr.add_mid, Nat.zero_add] at this
  · have := hc _ _ h2; rwa [Addr.add_mid, Nat.zero_add] at this
  · have := hc _ _ h3; rwa [Addr.add_mid, Nat.zero_add] at this
theorem OwnI.shape {e : TypeId} {w : World} {base : Nat} {v : Value} {T : List (RI × Value)} (h : OwnI e w base v T) : ∃ ao cap, v = .slice ao T.length cap ∧ T.length ≤ cap ∧ cap ≤ 9223372036854775807 ∧ (ao = none → cap = 0) := by
  rcases h.1.2 with ⟨rfl, hn⟩ | ⟨b, cap, cur, rfl, _, _, k, k2, _⟩
  · exact ⟨none, 0, by rw [hn], by omega, by omega, fun _ => rfl⟩
  · exact ⟨_, cap, rfl, k, k2, fun e => by cases e⟩
theorem OwnI.shape1 {e : TypeId} {w : World} {base : Nat} {v : Value} {T : List (RI × Value)} (h : OwnI e w base v T) (hT : 0 < T.length) : ∃ g cap, v = .slice (some ⟨g, 0, none⟩) T.length cap ∧ T.length ≤ cap ∧ cap ≤ 9223372036854775807 ∧ g < w.heap.size := by
  rcases h.1.2 with ⟨rfl, hn⟩ | ⟨b, cap, cur, rfl, _, hg, k, k2, _⟩
  · omega
  · exact ⟨b, cap, rfl, k, k2, lt_of_block hg⟩
theorem OwnI.items {e : TypeId} {w : World} {base : Nat} {v : Value} {T : List (RI × Value)} (h : OwnI e w base v T) : Items w v (T.map Prod.fst) := by
  rcases h.1.2 with ⟨rfl, hn⟩ | ⟨g, cap, cur, rfl, h3, hg, h4, h5, _⟩
  · have : T = [] := List.eq_nil_of_length_eq_zero hn
    subst this
    exact Items.nil w
  · refine ⟨_, cap, by rw [List.length_map], by rw [List.length_map]; exact h4, h5, fun e => (by cases e), .inr ⟨g, 0, rfl, lt_of_block hg, fun i x hx => ?_⟩⟩
    rw [List.getElem?_map] at hx
    obtain ⟨p, hp, rfl⟩ := Option.map_eq_some_iff.1 hx
    obtain ⟨c0, c1, c2⟩ := h.cellsAt hp
    have hgp := h.2 p (List.mem_of_getElem? hp)
    exact ⟨p.2, by rw [Nat.zero_add]; exact c0, by rw [Nat.zero_add]; exact c1, by rw [Nat.zero_add]; exact c2, hgp.1, hgp.2.1⟩
/-- append(items, items...) -/
theorem wp_append_items {P : Program} {w : World} {o : Oper} {a : Act} {K : Act → World → Prop} {Q : Exit → Act → World → Prop} (s x : Operand) (t e : TypeId)
    (ho : o.op = .call { callee := .builtin .append, args := #[s, x], argTypes := #[t, t] })
    (i : TypeInfo) (z : Value) (ht : P.underlying t = some (.slice e)) (hi : P.info? e = some i) (hz : i.zero = some z) (hsize : i.size = 3) (hby : i.bytes = 40) (hzs : z.cells.size = 3)
    (base : Nat) (v : Value) (T : List (RI × Value)) (hs : a.eval s = v) (hown : OwnI e w base v T) (ad : Addr) (m c : Nat) (N : List (RI × Value)) (hx : a.eval x = .slice (some ad) m c) (hm : m = N.length)
    (hnews : ∀ j u, (N.flatMap tcells)[j]? = some u → w.cell? (ad.add j) = some u) (hN : ∀ p ∈ N, Goodp w v p)
    (h63 : T.length + N.length ≤ 1048576) (hbase : base ≤ w.heap.size)
    (h : ∀ v' w', OwnI e w' base v' (T ++ N) → w.grownBy w' v.ownBlock → (∀ b, v'.ownBlock = some b → v.ownBlock = some b ∨ w.heap.size ≤ b) → K (a.put o.dst v') w') : o.wp P a w K Q := by
  subst hm
  have hall : ∀ p ∈ T ++ N, Goodp w v p := fun p hp => (List.mem_append.1 hp).elim (hown.2 p) (hN p)
  obtain ⟨v', w', hr, h2, h3, _⟩ := run_append_own (P := P) w base t o.type e i z 3 40 ht hi hz hsize hby hzs (by decide) v T.length (T.flatMap tcells) hown.1 ad N.length c (N.flatMap tcells) (tcells_len N) hnews (tcells_one hN) (by simp only [maxLen]; omega) (by omega) hbase
  have h5 := append_place base t o.type e i z 3 40 ht hi hz hsize hby hzs (by decide) v T.length (T.flatMap tcells) hown.1 ad N.length c (N.flatMap tcells) (tcells_len N) hnews (tcells_one hN) (by simp only [maxLen]; omega) (by omega) hr
  unfold Oper.wp execOp
  simp only [ho, resolve, invoke, builtin, Sem.run_bind, Sem.run_pure, Result.andThen_ok, List.map_toArray, List.map_cons, List.map_nil, hs, hx, hr]
  refine h v' w' ⟨by rw [List.length_append, List.flatMap_append]; exact h2, fun p hp => ?_⟩ h3 h5
  obtain ⟨g1, g2, g3⟩ := hall p hp
  refine ⟨g1.keptB h3 (g3.imp id (fun h g hg => h g hg)), g2, ?_⟩
  by_cases hb : p.1.b = []
  · exact .inl hb
  · refine .inr fun g hg e => ?_
    rcases h5 g e with h6 | h6
    · exact (g3.resolve_left hb) g hg h6
    · have := g1.block_lt hb g hg
      omega
theorem wpList_append_items {P : Program} {w : World} {ops : Array Oper} {rest : List Oper} {o : Oper} {a : Act} {Q : Exit → Act → World → Prop} (hgd : o.guard = none) (s x : Operand) (t e : TypeId)
    (ho : o.op = .call { callee := .builtin .append, args := #[s, x], argTypes := #[t, t] })
    (i : TypeInfo) (z : Value) (ht : P.underlying t = some (.slice e)) (hi : P.info? e = some i) (hz : i.zero = some z) (hsize : i.size = 3) (hby : i.bytes = 40) (hzs : z.cells.size = 3)
    (base : Nat) (v : Value) (T : List (RI × Value)) (hs : a.eval s = v) (hown : OwnI e w base v T) (ad : Addr) (m c : Nat) (N : List (RI × Value)) (hx : a.eval x = .slice (some ad) m c) (hm : m = N.length)
    (hnews : ∀ j u, (N.flatMap tcells)[j]? = some u → w.cell? (ad.add j) = some u) (hN : ∀ p ∈ N, Goodp w v p)
    (h63 : T.length + N.length ≤ 1048576) (hbase : base ≤ w.heap.size)
    (h : ∀ v' w', OwnI e w' base v' (T ++ N) → w.grownBy w' v.ownBlock → (∀ b, v'.ownBlock = some b → v.ownBlock = some b ∨ w.heap.size ≤ b) → wpList P ops Q rest (a.put o.dst v') w') : wpList P ops Q (o :: rest) a w :=
  wpList_plain hgd fun _ hK => wp_append_items s x t e ho i z ht hi hz hsize hby hzs base v T hs hown ad m c N hx hm hnews hN h63 hbase (fun v' w' h1 h2 h3 => hK _ _ (h v' w' h1 h2 h3))
/-- one item written out, as the source of an append -/
theorem news_one (W : World) (p : RI × Value) (t : TypeId) (g : Nat) (hg : g = W.heap.size) : ∀ j u, ([p].flatMap tcells)[j]? = some u → (W.alloc (.cells #[.int .i64 p.1.d, .int .i64 p.1.a, p.2] t)).cell? ((⟨g, 0, none⟩ : Addr).add j) = some u := by
  intro j u hu
  subst hg
  rw [Addr.add_mid, Nat.zero_add, cell_of_row _ _ j _ _ _ (heap_alloc_new W _)]
  simpa [tcells] using hu
theorem item_info : (Try.prog.info? 56).map (fun i => (i.zero, i.size, i.bytes)) = some (some (.agg #[.int .i64 0, .int .i64 0, .slice none 0 0]), 3, 40) := by kernel_rfl
theorem refitem_info : (Try.prog.info? 91).map (fun i => (i.zero, i.size, i.bytes)) = some (some (.agg #[.int .i64 0, .int .i64 0, .slice none 0 0]), 3, 40) := by kernel_rfl

theorem refof_any (v : Value) (l : List RI) (w : World) (h : Items w v l) (hl : l.length ≤ 1000) :
    Calls Try.prog 46 #[v] w fun e w' => ∃ v', e = .returned v' ∧ Items w' v' l ∧ Below w.heap.size w w' := by
  obtain ⟨i0, hi, hz0, hz1, hz2⟩ := info_parts refitem_info
  have h' := Lib.hid h
  obtain ⟨ao, cap, rfl, hc1, hc2, _⟩ := h.shape
  obtain ⟨n, hn⟩ : ∃ n, n = l.length := ⟨_, rfl⟩
  have HN := Lib.hid hn
  rw [← hn] at h' hc1 hl ⊢
  clear h hn
  go_enter Try.func46, Try.ntmps46
  go_wp2
  go_loopw [3, 8] (fun a i W => ∃ (k : Nat) (T : List (RI × Value)), k ≤ n ∧ i = .int .i64 k ∧ Hid (T.map Prod.fst = l.take k) ∧ OwnI 91 W w.heap.size a T ∧ Below w.heap.size w W) (fun _ i _ => n - (intOf i).toNat)
  case atStart => exact ⟨0, [], Nat.zero_le _, rfl, Lib.hid rfl, OwnI.nil _ _ _, belR _⟩
  case round =>
    obtain ⟨k, T, hk, rfl, hT, O, B⟩ := hrel
    by_cases hlt : k < n
    · obtain ⟨b, off, x, u, rfl, hbl, hx, hit⟩ := Items.get h'.out hlt
      obtain ⟨e0, e1, e2, hy, hi64⟩ := hit.up B hbl
      have hgu : x.b = [] ∨ ∀ g, u.ownBlock = some g → g < w.heap.size := by
        by_cases hb : x.b = []
        · exact .inl hb
        · exact .inr (hit.2.2.2.1.block_lt hb)
      obtain ⟨xd, xa, xb⟩ := x
      dsimp only at *
      obtain ⟨au, cu, rfl, hu1, hu2⟩ := hy.shape
      obtain ⟨xn, hxn⟩ : ∃ xn, xn = xb.length := ⟨_, rfl⟩
      rw [← hxn] at e2 hy hgu hu1
      have HX := Lib.hid hxn
      have hgood : Goodp wr u3 ((⟨xd, xa, xb⟩ : RI), Value.slice au xn cu) := ⟨hy, hi64, hgu.imp id (fun h g hg e => Nat.not_lt.2 (O.ge g e) (h g hg))⟩
      have hgood := Lib.hid hgood
      have htl : T.length = k := by have := congrArg List.length hT.out; rw [List.length_map, List.length_take, ← HN.out] at this; omega
      have HTL := Lib.hid htl
      clear hit hy hxn htl
      go_wp2_with (at_builtin; go_loud (refine wpList_append_items rfl (.tmp 12) (.tmp 14) 86 91 rfl i0 _ Try.underlying86 hi hz0 hz1 hz2 rfl w.heap.size u3 T rfl (O.up (belA2 (belR _))) _ 1 1 [((⟨xd, xa, xb⟩ : RI), Value.slice au xn cu)] rfl rfl (news_one _ ((⟨xd, xa, xb⟩ : RI), Value.slice au xn cu) _ _ (by first | rfl | simp)) (fun p hp => by rw [List.mem_singleton.1 hp]; exact hgood.out.up (belA2 (belR _))) (by rw [HTL.out]; simp; omega) (by have := B.size; simp; omega) ?_); intro v5 w5 O5 g5 p5)
      go_roundw
      case rel =>
        refine ⟨k + 1, _, by omega, by go_num, Lib.hid ?_, O5, belG (belA2 B) g5 (fun g hg => O.ge g hg)⟩
        rw [List.map_append, hT.out, take_succ_get hx.out]; rfl
      case measure => simp [intOf]; omega
    · go_wp2
      go_ret
      refine ⟨_, rfl, ?_, B⟩
      have := O.items
      rw [hT.out, show k = n by omega, HN.out, List.take_length] at this
      exact this
end Go.Proofs.Ytenjpldinnbcbaa
