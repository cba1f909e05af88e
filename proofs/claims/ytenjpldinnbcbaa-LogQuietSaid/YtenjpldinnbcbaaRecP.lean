/- One cell of an owned row of items changed; what is known of wattlelaw11.Of's record. -/
import Derived.Test.YtenjpldinnbcbaaRecO1
import Derived.Test.YtenjpldinnbcbaaRecD
import Derived.Test.YtenjpldinnbcbaaDsk
import Derived.Test.YtenjpldinnbcbaaBen
import Derived.Test.YtenjpldinnbcbaaBkA
namespace Go.Proofs.Ytenjpldinnbcbaa
open Go.RowKit C
set_option linter.unusedVariables false
set_option linter.unusedSimpArgs false
set_option maxRecDepth 100000
set_option maxHeartbeats 2000000

theorem tcells_set : ∀ (T : List (RI × Value)) (k : Nat) (p p' : RI × Value) (j : Nat) (u : Value), T[k]? = some p → j < 3 → tcells p' = (tcells p).set j u → (T.set k p').flatMap tcells = (T.flatMap tcells).set (k * 3 + j) u := by
  intro T
  induction T with
  | nil => intro k p p' j u h; simp at h
  | cons x T ih =>
    intro k p p' j u h hj e
    cases k with
    | zero =>
      cases h
      show tcells p' ++ T.flatMap tcells = (tcells x ++ T.flatMap tcells).set (0 * 3 + j) u
      rw [e, Nat.zero_mul, Nat.zero_add, List.set_append, if_pos (by show j < 3; exact hj)]
    | succ k =>
      have h : T[k]? = some p := h
      show tcells x ++ (T.set k p').flatMap tcells = (tcells x ++ T.flatMap tcells).set ((k + 1) * 3 + j) u
      rw [ih k p p' j u h hj e, List.set_append, if_neg (by show ¬ (k + 1) * 3 + j < 3; omega)]
      congr 2
      show k * 3 + j = (k + 1) * 3 + j - 3
      omega
theorem RowAt.setCell {e : TypeId} {m b b' o : Nat} {v : Value} {w : World} (h : RowAt w b e m) : RowAt (w.setCell ⟨b', o, none⟩ v) b e m := RowAt.setCells b' [v] o h
theorem Goodp.fr {S : Nat → Prop} {w w' : World} {v : Value} {p : RI × Value} (h : Goodp w v p) (k : Fr S w w') (hb : p.1.b ≠ [] → ∀ g, p.2.ownBlock = some g → ¬ S g) : Goodp w' v p := ⟨h.1.frN k hb, h.2⟩
/-- one cell of an item changed -/
theorem OwnI.put {e : TypeId} {W : World} {B g n cap : Nat} {T : List (RI × Value)} {k : Nat} {p : RI × Value} (h : OwnI e W B (.slice (some ⟨g, 0, none⟩) n cap) T) (hp : T[k]? = some p)
    (j : Nat) (hj : j < 3) (u : Value) (p' : RI × Value) (hp' : tcells p' = (tcells p).set j u) (hg : Goodp W (.slice (some ⟨g, 0, none⟩) n cap) p') :
    OwnI e (W.setCell ⟨g, k * 3 + j, none⟩ u) B (.slice (some ⟨g, 0, none⟩) n cap) (T.set k p') := by
  have hk := (List.getElem?_eq_some_iff.1 hp).1
  have hn : n = T.length := by
    rcases h.1.2 with ⟨e1, _⟩ | ⟨g', cap', cur, e1, _⟩
    · cases e1
    · cases e1; rfl
  subst hn
  obtain ⟨RA, rg, h1, h2⟩ := RowAt.of_own h.1
  have hge := h.ge g rfl
  refine ⟨?_, fun q hq => ?_⟩
  · rw [List.length_set]
    refine RowAt.own RA.setCell ?_ (by rw [tcells_len, List.length_set]) hge h1 h2
    rw [tcells_set T k p p' j u hp hj hp']
    exact rangeAt_setCell rg (by rw [tcells_len]; omega)
  · have hG : Goodp W (.slice (some ⟨g, 0, none⟩) T.length cap) q := by
      rcases List.mem_or_eq_of_mem_set hq with h' | h'
      · exact h.2 q h'
      · rw [h']; exact hg
    exact hG.fr (Fr.cell (w := W) ⟨g, k * 3 + j, none⟩ u) (fun hb b hqb e => (hG.2.2.resolve_left hb) b hqb (by rw [show b = g from e]; rfl))
/-- one cell of an item changed, and a box behind that -/
theorem own_put {e : TypeId} {W : World} {B g n cap : Nat} {T : List (RI × Value)} {k : Nat} {p : RI × Value} (h : OwnI e W B (.slice (some ⟨g, 0, none⟩) n cap) T) (hp : T[k]? = some p) (hT : ∀ q ∈ T, ∀ b, q.2.ownBlock = some b → B ≤ b)
    (j : Nat) (hj : j < 3) (u : Value) (p' : RI × Value) (hp' : tcells p' = (tcells p).set j u) (hu : Byt W p'.2 p'.1.b) (hub : ∀ b, p'.2.ownBlock = some b → B ≤ b ∧ b ≠ g) (hi : i64b p'.1.d ∧ i64b p'.1.a) (r : Nat) (hr : r < B) (hg : B ≤ g) (s v : Value) :
    OwnI e (((W.setCell ⟨g, k * 3 + j, none⟩ u).setCell ⟨r, 0, none⟩ s).setCell ⟨r, 1, none⟩ v) B (.slice (some ⟨g, 0, none⟩) n cap) (T.set k p') ∧ ∀ q ∈ T.set k p', ∀ b, q.2.ownBlock = some b → B ≤ b := by
  have h1 := h.put hp j hj u p' hp' ⟨hu, hi, .inr (fun b hb e => (hub b hb).2 (by simpa [Value.ownBlock] using e.symm))⟩
  have hf : ∀ q ∈ T.set k p', ∀ b, q.2.ownBlock = some b → B ≤ b := fun q hq b hb => by
    rcases List.mem_or_eq_of_mem_set hq with h' | h'
    · exact hT q h' b hb
    · rw [h'] at hb; exact (hub b hb).1
  refine ⟨?_, hf⟩
  have F : Fr (fun b => b = r) (W.setCell ⟨g, k * 3 + j, none⟩ u) (((W.setCell ⟨g, k * 3 + j, none⟩ u).setCell ⟨r, 0, none⟩ s).setCell ⟨r, 1, none⟩ v) := (Fr.cell ⟨r, 0, none⟩ s).trans (Fr.cell (w := (W.setCell ⟨g, k * 3 + j, none⟩ u).setCell ⟨r, 0, none⟩ s) ⟨r, 1, none⟩ v)
  exact h1.fr F (fun b hb e => by have := h1.ge b hb; have e : b = r := e; omega) (fun q hq b hb e => by have := hf q hq b hb; have e : b = r := e; omega)
/-- the record that Of answers -/
def SomeRec2 (seq how : Int) (w : World) (e : Ending) (w' : World) : Prop :=
  ∃ (s : Int) (v : Value) (T : List (RI × Value)), e = .returned (.agg #[.int .i64 s, v]) ∧ i64b s ∧ OwnI 56 w' (w.heap.size + 2) v T ∧ (∀ q ∈ T, ∀ b, q.2.ownBlock = some b → w.heap.size + 2 ≤ b) ∧ T.length ≤ 6 ∧ (withinI (how.tdiv 4) 20 < 15 → s = 1 + withinI seq 2147483647) ∧ Below w.heap.size w w'
def SQ (n : Int) (s : Int) : Prop := i64b s ∧ s = 1 + n
def OfS3 (n : Int) (w W : World) : Prop := ∃ s v T, SQ n s ∧ RS w W s v T ∧ T.length ≤ 3
def OfS (n how : Int) (w W : World) : Prop := ∃ s v T, (i64b s ∧ (withinI (how.tdiv 4) 20 < 15 → s = 1 + n)) ∧ RS w W s v T ∧ T.length ≤ 6
theorem SomeRec2.items {seq how : Int} {w : World} {e : Ending} {w' : World} (h : SomeRec2 seq how w e w') : ∃ (s : Int) (v : Value) (l : List RI), e = .returned (.agg #[.int .i64 s, v]) ∧ i64b s ∧ ItemsF w' (w.heap.size + 2) v l ∧ l.length ≤ 6 ∧ (withinI (how.tdiv 4) 20 < 15 → s = 1 + withinI seq 2147483647) ∧ Below w.heap.size w w' := by
  obtain ⟨s, v, T, h1, h2, h3, h4, h5, h6, h7⟩ := h
  exact ⟨s, v, T.map Prod.fst, h1, h2, ⟨T, rfl, h3, h4⟩, by rw [List.length_map]; exact h5, h6, h7⟩
end Go.Proofs.Ytenjpldinnbcbaa
