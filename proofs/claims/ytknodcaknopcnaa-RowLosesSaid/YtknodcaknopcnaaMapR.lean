/- A map of whole numbers to true, made by the call, with its stamps: stored into, asked, ranged over. Over any program. -/
import Derived.Test.YtknodcaknopcnaaMap
import Derived.Maps.RangeRun
import Derived.Test.YtknodcaknopcnaaRowB
import Derived.Test.YtknodcaknopcnaaFr
namespace Go.Proofs.Ytknodcaknopcnaa
open Go.RowKit
set_option linter.unusedVariables false
set_option linter.unusedSimpArgs false

/-- block b of w is a map: its entries, its clock; each key with true -/
def MapR (w : World) (b : Nat) (arr : Array MapEntry) (clock : Nat) (ks : List Int) : Prop :=
  w.heap[b]? = some (.map arr clock) ∧ arr.toList.map (fun e => (e.key, e.val)) = ks.map (fun k => (Value.int .i64 k, Value.bool true)) ∧ (∀ x ∈ arr.toList, x.born < clock) ∧ (arr.toList.map (·.born)).Nodup ∧ ks.Nodup
theorem MapR.made (w : World) : MapR (w.alloc (.map #[] 0)) w.heap.size #[] 0 [] := ⟨(MapKept.heap_alloc w _).1, rfl, by simp, by simp, by simp⟩
theorem MapR.toI {w : World} {b clock : Nat} {arr : Array MapEntry} {ks : List Int} (h : MapR w b arr clock ks) : MapI .i64 w b (ks.map (fun k => (k, Value.bool true))) := ⟨arr, clock, h.1, by rw [h.2.1, List.map_map]; rfl⟩
theorem MapR.same {w w' : World} {b clock : Nat} {arr : Array MapEntry} {ks : List Int} (h : MapR w b arr clock ks) (hw : w'.heap[b]? = w.heap[b]?) : MapR w' b arr clock ks := ⟨hw.trans h.1, h.2⟩
theorem MapR.heapAt {w : World} {b clock : Nat} {arr : Array MapEntry} {ks : List Int} (h : MapR w b arr clock ks) : w.heap[b]? = some (.map arr clock) := h.1
theorem MapR.lt {w : World} {b clock : Nat} {arr : Array MapEntry} {ks : List Int} (h : MapR w b arr clock ks) : b < w.heap.size := (Array.getElem?_eq_some_iff.1 h.1).1
theorem MapR.size {w : World} {b clock : Nat} {arr : Array MapEntry} {ks : List Int} (h : MapR w b arr clock ks) : arr.toList.length = ks.length := by have := congrArg List.length h.2.1; simpa using this
theorem getM_keys (ks : List Int) (x : Int) : getM (ks.map (fun k => (k, Value.bool true))) x = if x ∈ ks then some (.bool true) else none := by
  induction ks with
  | nil => rfl
  | cons k ks ih =>
    show (if k = x then some (Value.bool true) else getM (ks.map _) x) = _
    rw [ih]
    by_cases h : k = x
    · rw [if_pos h, if_pos (by simp [h])]
    · rw [if_neg h]
      by_cases h2 : x ∈ ks
      · rw [if_pos h2, if_pos (by simp [h2])]
      · rw [if_neg h2, if_neg (by simp; exact ⟨fun e => h e.symm, h2⟩)]
theorem MapR.store {P : Program} {w : World} {b clock : Nat} {arr : Array MapEntry} {ks : List Int} {t kt e : TypeId} (h : MapR w b arr clock ks) (ht : P.underlying t = some (.map kt e)) (hk : P.underlying kt = some (.int .i64)) (x : Int) :
    ∃ w' arr' clock' ks', (Instr.mapUpdate t (.map (some b)) (.int .i64 x) (.bool true)).run P w = .ok () w' ∧ MapR w' b arr' clock' ks' ∧ w.grownBy w' (some b) ∧ w'.heap.size = w.heap.size ∧ ks'.length ≤ ks.length + 1 ∧ ∀ y, y ∈ ks' ↔ y = x ∨ y ∈ ks := by
  obtain ⟨hb, he, hst, hnd, hkn⟩ := h
  have he' : arr.toList.map (fun e => (e.key, e.val)) = (ks.map (fun k => (k, Value.bool true))).map fun p => (.int .i64 p.1, p.2) := by rw [he, List.map_map]; rfl
  have hck : (Instr.checkKey false 10000 kt (.int .i64 x)).run P w = .ok () w := MapKept.run_checkKey hk (by simp [MapKept.IsKey]) _ _
  have out : ∀ o, w.grownBy { w with heap := w.heap.setIfInBounds b o } (some b) := fun o =>
    ⟨rfl, rfl, rfl, by simp, fun i _ hi => (MapKept.heap_set hb).2 i (fun e => hi (by rw [e]))⟩
  rcases findNow_int .i64 x arr.toList _ 0 he' with ⟨h1, h2⟩ | ⟨j, v, h1, h2, h3, h4⟩
  · have hf := MapKept.run_findKey (w := w) hk h1
    have hx : x ∉ ks := fun hx => by rw [getM_keys, if_pos hx] at h2; cases h2
    refine ⟨{ w with heap := w.heap.setIfInBounds b (.map (arr.push { key := .int .i64 x, val := .bool true, born := clock }) (clock + 1)) }, _, _, ks ++ [x], ?_, ⟨(MapKept.heap_set hb).1, ?_, ?_, ?_, ?_⟩, out _, by simp, by simp, fun y => by simp [or_comm]⟩
    · simp [Instr.mapUpdate, run_underlying ht, MapKept.run_getObj_map hb, hck, hf, MapKept.run_setObj_map _ hb, Result.andThen]
    · simp [he]
    · intro y hy
      rw [Array.toList_push] at hy
      rcases List.mem_append.1 hy with hy | hy
      · have := hst y hy; omega
      · rw [List.mem_singleton.1 hy]; exact Nat.lt_succ_self _
    · rw [Array.toList_push, List.map_append, List.nodup_append]
      refine ⟨hnd, by simp, ?_⟩
      intro a ha c hc e
      obtain ⟨y, hy, rfl⟩ := List.mem_map.1 ha
      have := hst y hy
      simp at hc
      omega
    · rw [List.nodup_append]
      exact ⟨hkn, by simp, fun a ha c hc e => by rw [List.mem_singleton.1 hc] at e; exact hx (e ▸ ha)⟩
  · have hf := MapKept.run_findKey (w := w) hk h1
    have hx : x ∈ ks := by
      rw [getM_keys] at h2
      by_cases hx : x ∈ ks
      · exact hx
      · rw [if_neg hx] at h2; cases h2
    have hkey : ((arr[0 + j]?).map (·.key)).getD (.int .i64 x) = .int .i64 x := by
      rw [Nat.zero_add]
      have h3' : (arr[j]?).map (·.key) = some (.int .i64 x) := by simpa using h3
      rw [h3']; rfl
    have hstay : (Instr.keyThatStays (.int .i64 x) (.int .i64 x)).run P w = .ok (.int .i64 x) w := by
      unfold Instr.keyThatStays
      have : Instr.sameBits 10000 (.int .i64 x) (.int .i64 x) = true := by
        unfold Instr.sameBits
        simp
      rw [this]
      rfl
    have hupd : ∀ ks : List Int, x ∈ ks → updM (ks.map (fun k => (k, Value.bool true))) x (.bool true) = ks.map (fun k => (k, Value.bool true)) := by
      intro ks
      induction ks with
      | nil => intro h; cases h
      | cons k ks ih =>
        intro h
        show (if k = x then (x, Value.bool true) :: ks.map _ else (k, Value.bool true) :: updM (ks.map _) x (.bool true)) = _
        by_cases hk : k = x
        · rw [if_pos hk, hk]; rfl
        · rw [if_neg hk, ih ((List.mem_cons.1 h).resolve_left (fun e => hk e.symm))]; rfl
    have hborn : ∀ (l : List MapEntry) (m : Nat), (l.modify m fun e => { e with key := .int .i64 x, val := .bool true }).map (·.born) = l.map (·.born) := by
      intro l
      induction l with
      | nil => intro m; cases m <;> rfl
      | cons a l ih =>
        intro m
        cases m with
        | zero => rfl
        | succ m => show a.born :: (l.modify m _).map _ = _; rw [ih m]; rfl
    refine ⟨{ w with heap := w.heap.setIfInBounds b (.map (arr.modify (0 + j) fun e => { e with key := .int .i64 x, val := .bool true }) clock) }, _, _, ks, ?_, ⟨(MapKept.heap_set hb).1, ?_, ?_, ?_, hkn⟩, out _, by simp, by omega, fun y => ⟨.inr, fun h => h.elim (fun e => e ▸ hx) id⟩⟩
    · simp only [Instr.mapUpdate, Sem.run_bind, run_underlying ht, Result.andThen, MapKept.run_getObj_map hb, hck, hf, hkey, hstay, MapKept.run_setObj_map _ hb]
    · rw [Nat.zero_add, Array.toList_modify]
      rw [h4 (.bool true), hupd ks hx, List.map_map]; rfl
    · intro y hy
      rw [Nat.zero_add, Array.toList_modify] at hy
      have : y.born ∈ (arr.toList.modify j fun e => { e with key := .int .i64 x, val := .bool true }).map (·.born) := List.mem_map.2 ⟨y, hy, rfl⟩
      rw [hborn] at this
      obtain ⟨z, hz, e⟩ := List.mem_map.1 this
      rw [← e]; exact hst z hz
    · rw [Nat.zero_add, Array.toList_modify, hborn]; exact hnd
theorem wpList_storeR {P : Program} {w : World} {ops : Array Oper} {rest : List Oper} {o : Oper} {a : Act} {Q : Exit → Act → World → Prop}
    (hg : o.guard = none) (m x v : Operand) (t : TypeId) (hop : o.op = Op.mapUpdate t m x v) (kt e : TypeId) (ht : P.underlying t = some (.map kt e)) (hk : P.underlying kt = some (.int .i64))
    (b : Nat) (arr : Array MapEntry) (clock : Nat) (ks : List Int) (n : Int) (hm : a.eval m = .map (some b)) (hx : a.eval x = .int .i64 n) (hv : a.eval v = .bool true) (h : MapR w b arr clock ks)
    (hK : ∀ w' arr' clock' ks', MapR w' b arr' clock' ks' → w.grownBy w' (some b) → w'.heap.size = w.heap.size → ks'.length ≤ ks.length + 1 → (∀ y, y ∈ ks' ↔ y = n ∨ y ∈ ks) → wpList P ops Q rest (a.put o.dst undef) w') : wpList P ops Q (o :: rest) a w := by
  refine wpList_plain hg fun K' hK' => ?_
  obtain ⟨w', arr', clock', ks', hrun, r1, r2, r3, r4, r5⟩ := h.store ht hk n
  unfold Oper.wp
  simp [execOp, hop, hm, hx, hv, hrun, Result.andThen]
  exact hK' _ _ (hK w' arr' clock' ks' r1 r2 r3 r4 r5)
theorem not_iter {w : World} {b o it : Nat} {v : Value} {m : Option Nat} {s c : Nat} {sn : Array Nat} (h : w.cell? ⟨b, o, none⟩ = some v) (hi : w.heap[it]? = some (.mapIter m s sn c)) : b ≠ it := by
  rintro rfl
  simp [World.cell?, hi] at h
theorem Byt.iter {w w' : World} {it : Nat} {m : Option Nat} {s c : Nat} {sn : Array Nat} {v : Value} {l : List Nat} (h : Byt w v l) (k : Fr (fun b => b = it) w w') (hi : w.heap[it]? = some (.mapIter m s sn c)) : Byt w' v l := by
  by_cases hl : l = []
  · subst hl
    obtain ⟨ao, cap, rfl, h1, h2, h0, h3, hA⟩ := h
    exact ⟨ao, cap, rfl, h1, h2, h0, h3, .inl rfl⟩
  · have h' := h
    obtain ⟨ao, cap, rfl, h1, h2, h0, h3, hA⟩ := h'
    refine h.fr k fun b hb e => ?_
    obtain ⟨b', off, v', rfl, hc, _⟩ := hA.cell (k := 0) (by cases l with | nil => exact absurd rfl hl | cons a t => simp)
    cases hb
    exact not_iter hc hi e
theorem RowB.iter {w w' : World} {it base : Nat} {m : Option Nat} {s c : Nat} {sn : Array Nat} {v : Value} {ls : List (List Nat)} (h : RowB w base v ls) (k : Fr (fun b => b = it) w w') (hi : w.heap[it]? = some (.mapIter m s sn c)) : RowB w' base v ls := by
  obtain ⟨cs, h1, h2⟩ := h
  refine ⟨cs, row_fr h1 k fun g hg e => ?_, fun i hi' => let ⟨c, e, hc, hx⟩ := h2 i hi'; ⟨c, e, hc.iter k hi, hx⟩⟩
  rcases h1.2 with ⟨rfl, _⟩ | ⟨g', cap, cur, rfl, _, hgc, _⟩
  · cases hg
  · have e2 : g' = g := by cases hg; rfl
    rw [e2, show g = it from e, hi] at hgc
    cases hgc
theorem MapR.keys {w : World} {b clock : Nat} {arr : Array MapEntry} {ks : List Int} (h : MapR w b arr clock ks) {e : MapEntry} (he : e ∈ arr.toList) : ∃ k, k ∈ ks ∧ e.key = .int .i64 k ∧ e.val = .bool true := by
  have : (e.key, e.val) ∈ arr.toList.map (fun e => (e.key, e.val)) := List.mem_map.2 ⟨e, he, rfl⟩
  rw [h.2.1] at this
  obtain ⟨k, hk, e2⟩ := List.mem_map.1 this
  cases e2' : e
  rw [e2'] at e2
  simp only [Prod.mk.injEq] at e2
  exact ⟨k, hk, e2.1.symm, e2.2.symm⟩
theorem MapR.entry {w : World} {b clock : Nat} {arr : Array MapEntry} {ks : List Int} (h : MapR w b arr clock ks) {k : Int} (hk : k ∈ ks) : ∃ e, e ∈ arr.toList ∧ e.key = .int .i64 k := by
  have : (Value.int .i64 k, Value.bool true) ∈ ks.map (fun k => (Value.int .i64 k, Value.bool true)) := List.mem_map.2 ⟨k, hk, rfl⟩
  rw [← h.2.1] at this
  obtain ⟨e, he, e2⟩ := List.mem_map.1 this
  simp only [Prod.mk.injEq] at e2
  exact ⟨e, he, e2.1⟩
theorem MapR.stamps {w : World} {b clock : Nat} {arr : Array MapEntry} {ks : List Int} (h : MapR w b arr clock ks) : (∀ x ∈ arr.toList, x.born < clock) ∧ (arr.toList.map (·.born)).Nodup := ⟨h.2.2.1, h.2.2.2.1⟩
theorem left_none {es : Array MapEntry} {seen : Array Nat} (h : (leftOf es seen).size = 0) {e : MapEntry} (he : e ∈ es.toList) : seen.contains e.born = true := by
  cases hc : seen.contains e.born with
  | true => rfl
  | false =>
    have : e ∈ leftOf es seen := Array.mem_filter.2 ⟨Array.mem_toList_iff.1 he, by rw [hc]; rfl⟩
    have h2 := Array.eq_empty_of_size_eq_zero h
    rw [h2] at this
    simp at this
theorem iterSeen_of {w : World} {r : Nat} {m : Option Nat} {s c : Nat} {sn : Array Nat} (h : w.heap[r]? = some (.mapIter m s sn c)) : w.iterSeen r = sn := by
  unfold World.iterSeen
  rw [h]
end Go.Proofs.Ytknodcaknopcnaa
