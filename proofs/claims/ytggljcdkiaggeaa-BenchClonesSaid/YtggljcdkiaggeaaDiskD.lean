/- The walks of slices.IndexFunc and slices.DeleteFunc on writes, as disk's Damage calls them. -/
import Derived.Test.YtggljcdkiaggeaaDiskCl
namespace Go.Proofs.Ytggljcdkiaggeaa
open Go.RowKit
set_option linter.unusedVariables false
set_option linter.unusedSimpArgs false
set_option maxRecDepth 100000
set_option maxHeartbeats 1000000

/-- block b is a row of m cells, of elements e -/
def RowAt (w : World) (b : Nat) (e : TypeId) (m : Nat) : Prop := ∃ cur, w.heap[b]? = some (.cells cur e (0, 0)) ∧ cur.size = m
theorem RowAt.setCells {e : TypeId} {m b : Nat} (b' : Nat) : ∀ (vs : List Value) (o : Nat) {w : World}, RowAt w b e m → RowAt (w.setCells b' o vs) b e m
  | [], _, _, h => h
  | v :: vs, o, w, h => by
    rw [World.setCells]
    refine RowAt.setCells b' vs (o + 1) ?_
    obtain ⟨cur, h1, h2⟩ := h
    by_cases hb : b = b'
    · subst hb
      refine ⟨cur.setIfInBounds o v, ?_, by simpa using h2⟩
      simp [World.setCell, Array.getElem?_modify, h1]
    · refine ⟨cur, ?_, h2⟩
      rw [Below.heap_setCell _ _ _ _ (by simpa using hb)]
      exact h1
theorem RowAt.fr {S : Nat → Prop} {w w' : World} {b m : Nat} {e : TypeId} (h : RowAt w b e m) (k : Fr S w w') (hb : ¬ S b) : RowAt w' b e m := by
  obtain ⟨cur, h1, h2⟩ := h
  exact ⟨cur, by rw [k.block b (lt_of_block h1) hb]; exact h1, h2⟩
theorem RowAt.there {w : World} {b m : Nat} {e : TypeId} (h : RowAt w b e m) : w.there b 0 m := by
  obtain ⟨cur, h1, h2⟩ := h
  intro j hj
  refine ⟨?_, ?_⟩
  · rw [Nat.zero_add, cell_of_row w b j cur _ _ h1, Array.getElem?_eq_getElem (by omega)]
    rfl
  · unfold World.frozen?
    show (match w.heap[b]? with | some (.cells _ _ (lo, hi)) => _ | _ => _) = _
    rw [h1]
    simp
theorem RowAt.own {w : World} {base b n cap size : Nat} {e : TypeId} {xs : List Value} (h : RowAt w b e (cap * size)) (hr : w.rangeAt b 0 xs) (hl : xs.length = n * size) (hb : base ≤ b) (hn : n ≤ cap) (hc : cap ≤ maxLen) :
    w.ownsRow base e size (.slice (some ⟨b, 0, none⟩) n cap) n xs := by
  obtain ⟨cur, h1, h2⟩ := h
  refine ⟨hl, .inr ⟨b, cap, cur, rfl, hb, h1, hn, hc, h2, ?_⟩⟩
  apply List.ext_getElem?
  intro j
  have hle : n * size ≤ cap * size := Nat.mul_le_mul_right _ hn
  have hcl : cur.toList.length = cap * size := by rw [Array.length_toList]; exact h2
  by_cases hj : j < n * size
  · have h3 := hr j xs[j] (List.getElem?_eq_getElem (by omega))
    rw [Nat.zero_add, cell_of_row w b j cur _ _ h1] at h3
    rw [List.getElem?_take_of_lt hj, Array.getElem?_toList, h3, List.getElem?_eq_getElem (by omega)]
  · rw [List.getElem?_eq_none (by rw [List.length_take]; omega), List.getElem?_eq_none (by omega)]
theorem RowAt.of_own {w : World} {base b n cap size : Nat} {e : TypeId} {xs : List Value} (h : w.ownsRow base e size (.slice (some ⟨b, 0, none⟩) n cap) n xs) : RowAt w b e (cap * size) ∧ w.rangeAt b 0 xs ∧ n ≤ cap ∧ cap ≤ maxLen := by
  obtain ⟨hl, h⟩ := h
  rcases h with ⟨e, _⟩ | ⟨b', cap', cur, e, h1, h2, h3, h4, h5, h6⟩
  · cases e
  · cases e
    refine ⟨⟨cur, h2, h5⟩, fun j v hj => ?_, h3, h4⟩
    rw [← h6] at hj
    have hlt := (List.getElem?_eq_some_iff.1 hj).1
    rw [List.length_take] at hlt
    rw [List.getElem?_take_of_lt (by omega)] at hj
    rw [Nat.zero_add, cell_of_row w b j cur _ _ h2]
    simpa using hj
/-- the closure: is the write at the place? -/
theorem dmg1_any (w : World) (v : Nat × List Nat) (hl : v.2.length = 32) (b4 : Nat) (a : Int) (hc : w.cell? ⟨b4, 0, none⟩ = some (.int .i64 a)) :
    Calls Try.prog 58 #[.agg (wcells v).toArray, .pointer (some ⟨b4, 0, none⟩)] w fun e w' => e = .returned (.bool (decide ((v.1 : Int) = a))) ∧ Below w.heap.size w w' := by
  have hc2 : (w.alloc (.cells (wcells v).toArray 82)).cell? ⟨b4, 0, none⟩ = some (.int .i64 a) := cell_fr hc (Fr.alloc (S := fun _ => False) _ _) id
  have hc3 : (w.alloc (.cells (wcells v).toArray 82)).cell? ⟨w.heap.size, 0, none⟩ = some (.int .i64 (v.1 : Nat)) := by
    rw [cell_of_row _ _ 0 _ _ _ (heap_alloc_new w _)]; rfl
  obtain ⟨cs, hcs⟩ : ∃ cs, cs = wcells v := ⟨_, rfl⟩
  rw [← hcs] at hc2 hc3 ⊢
  clear hcs hc
  go_enter Try.func58, Try.ntmps58
  go_wp2
  go_ret
  exact ⟨by congr 2, belA1 (belR w)⟩
theorem call_dmg1 (args : Array Value) (w : World) : (callFunc 58 args).run Try.prog w = .ok (.enter 58 args) w := by
  simp [callFunc, go_sem, Try.func58, Try.f58]
theorem pcells_range {w : World} {b : Nat} {p : List (Nat × List Nat)} (h : w.rangeAt b 0 (pcells p)) (hs : ∀ v ∈ p, v.2.length = 32) {k : Nat} {v : Nat × List Nat} (hv : p[k]? = some v) : w.rangeAt b (k * 33) (wcells v) := fun j u hu => by
  have := h (k * 33 + j) u (pcells_get hs hv j u hu)
  rwa [Nat.zero_add] at this
theorem indexf_any (w : World) (p : List (Nat × List Nat)) (ao : Option Addr) (cap b4 : Nat) (a : Int) (h1 : p.length ≤ cap) (h2 : cap ≤ 9223372036854775807) (hr : ∀ k v, p[k]? = some v → ∃ b, ao = some ⟨b, 0, none⟩ ∧ w.rangeAt b (k * 33) (wcells v)) (hs : ∀ v ∈ p, v.2.length = 32) (hc : w.cell? ⟨b4, 0, none⟩ = some (.int .i64 a)) :
    Calls Try.prog 62 #[.slice ao p.length cap, .func (.func 58) #[] #[.pointer (some ⟨b4, 0, none⟩)]] w fun e w' =>
      ∃ r, e = .returned (.int .i64 r) ∧ Below w.heap.size w w' ∧ ((r = -1 ∧ ∀ v ∈ p, (v.1 : Int) ≠ a) ∨ ∃ k : Nat, r = k ∧ k < p.length ∧ (∀ v ∈ p.take k, (v.1 : Int) ≠ a) ∧ ∀ v, p[k]? = some v → (v.1 : Int) = a) := by
  have hi82 := (zero_of_info write_info).2
  have HI := Lib.hid hi82
  have HR := Lib.hid hr
  have HS := Lib.hid hs
  have HC := Lib.hid hc
  have hE := call_dmg1
  clear hi82 hr hs hc
  go_enter Try.func62, Try.ntmps62
  go_wp2
  go_loopw [8] (fun i w' => ∃ k : Nat, k ≤ p.length ∧ i = .int .i64 k ∧ Hid (∀ v ∈ p.take k, (v.1 : Int) ≠ a) ∧ Below w.heap.size w w') (fun i _ => p.length - (intOf i).toNat)
  case atStart => exact ⟨0, Nat.zero_le _, rfl, Lib.hid (fun v hv => by simp at hv), belR w⟩
  case round =>
    obtain ⟨k, hk, rfl, hN, hW⟩ := hrel
    by_cases hlt : k < p.length
    · obtain ⟨v, hv⟩ : ∃ v, p[k]? = some v := ⟨_, List.getElem?_eq_getElem hlt⟩
      have hv3 : v.2.length = 32 := HS.out v (List.mem_of_getElem? hv)
      have HWL := Lib.hid (wcells_len hv3)
      obtain ⟨b, rfl, hrb⟩ := HR.out k v hv
      have HP : Hid (wr.rangeAt b (k * 33) (wcells v)) := rangeAt_fr hrb (Fr.of_below (S := fun _ => False) hW) id
      clear hrb
      have HC2 : Hid (wr.cell? ⟨b4, 0, none⟩ = some (.int .i64 a)) := cell_fr HC.out (Fr.of_below (S := fun _ => False) hW) id
      have HV := Lib.hid hv
      have HV3 := Lib.hid hv3
      have HT : Hid (p.take (k + 1) = p.take k ++ [v]) := take_succ_get hv
      clear hv hv3
      go_wp2_with (first
        | (refine wpList_load_mid rfl 82 _ rfl b (k * 33) rfl (wcells v) _ HP.out Try.underlying82 rfl (by rw [HWL.out]; exact HI.out) ?_)
        | fail)
      refine Calls.mono (dmg1_any wr v HV3.out b4 a HC2.out) ?_
      rintro e w2 ⟨rfl, hb2⟩
      by_cases heq : (v.1 : Int) = a
      · rw [decide_eq_true heq]
        have HE := Lib.hid heq
        clear heq
        go_wp2
        go_ret
        exact ⟨_, rfl, belT hW hb2, .inr ⟨k, rfl, hlt, hN.out, fun u hu => by rw [HV.out] at hu; cases hu; exact HE.out⟩⟩
      · rw [decide_eq_false heq]
        have HE := Lib.hid heq
        clear heq
        go_wp2
        go_roundw
        case rel =>
          refine ⟨k + 1, by omega, by go_num, Lib.hid ?_, belT hW hb2⟩
          rw [HT.out]
          intro u hu
          rcases List.mem_append.1 hu with h | h
          · exact hN.out u h
          · rw [List.mem_singleton.1 h]; exact HE.out
        case measure => simp [intOf]; omega
    · have hke : k = p.length := by omega
      have HK := Lib.hid hke
      clear hke
      go_wp2
      go_ret
      refine ⟨_, rfl, hW, .inl ⟨rfl, fun v hv => hN.out v ?_⟩⟩
      rw [HK.out, List.take_length]
      exact hv
theorem pcells_split {q : List (Nat × List Nat)} (h : ∀ v ∈ q, v.2.length = 32) : ∀ {i : Nat} {u : Nat × List Nat}, q[i]? = some u → ∃ A C, A.length = i * 33 ∧ pcells q = A ++ (wcells u ++ C) ∧ ∀ v, pcells (q.set i v) = A ++ (wcells v ++ C) := by
  induction q with
  | nil => intro i u hu; simp at hu
  | cons x q ih =>
    intro i u hu
    have hx := wcells_len (h x (.head _))
    cases i with
    | zero =>
      simp at hu
      subst hu
      exact ⟨[], pcells q, by simp, by unfold pcells; simp, fun v => by unfold pcells; simp⟩
    | succ i =>
      obtain ⟨A, C, h1, h2, h3⟩ := ih (fun v hv => h v (.tail _ hv)) (i := i) (u := u) (by simpa using hu)
      refine ⟨wcells x ++ A, C, by rw [List.length_append, hx, h1]; omega, ?_, fun v => ?_⟩
      · unfold pcells at h2 ⊢
        rw [List.flatMap_cons, h2, List.append_assoc]
      · have h4 := h3 v
        unfold pcells at h4 ⊢
        rw [List.set_cons_succ, List.flatMap_cons, h4, List.append_assoc]
theorem range_set {w : World} {b i : Nat} {q : List (Nat × List Nat)} {u v : Nat × List Nat} (h : w.rangeAt b 0 (pcells q)) (hs : ∀ v ∈ q, v.2.length = 32) (hu : q[i]? = some u) (hv : v.2.length = 32) (ht : w.there b (i * 33) 33) : (w.setCells b (i * 33) (wcells v)).rangeAt b 0 (pcells (q.set i v)) := by
  obtain ⟨A, C, h1, h2, h3⟩ := pcells_split hs hu
  rw [h2] at h
  rw [h3]
  have := range_upd (B' := wcells v) h (by rw [wcells_len hv, wcells_len (hs u (List.mem_of_getElem? hu))]) (by rw [h1, wcells_len hv]; exact ht)
  rw [h1] at this
  exact this
theorem range_take {w : World} {b i : Nat} {q : List (Nat × List Nat)} (h : w.rangeAt b 0 (pcells q)) : w.rangeAt b 0 (pcells (q.take i)) := by
  have e : pcells q = pcells (q.take i) ++ pcells (q.drop i) := by rw [← pcells_append, List.take_append_drop]
  rw [e] at h
  exact fun j v hv => h j v (by rw [List.getElem?_append_left (List.getElem?_eq_some_iff.1 hv).1]; exact hv)
/-- clear of a slice of structs in the middle of a block -/
theorem wpList_clear_mid {P : Program} {w : World} {ops : Array Oper} {rest : List Oper} {o : Oper} {a : Act} {Q : Exit → Act → World → Prop} (hgd : o.guard = none) (x : Operand) (t e : TypeId)
    (ho : o.op = .call { callee := .builtin .clear, args := #[x], argTypes := #[t] }) (hu : P.underlying t = some (.slice e)) (Z : Array Value) (size : Nat) (hz : ∀ w, (zeroValue e).run P w = .ok (.agg Z) w) (hZ : Z.size = size) (h1 : ∀ u ∈ Z.toList, u.oneCell' = true) (hs : 0 < size)
    (b off n cap : Nat) (hx : a.eval x = .slice (some ⟨b, off, none⟩) n cap) (h0 : 0 < n) (ht : w.there b off (n * size))
    (h : ∀ vs : List Value, vs.length = n * size → wpList P ops Q rest (a.put o.dst (.tuple #[])) (w.setCells b off vs)) : wpList P ops Q (o :: rest) a w := by
  refine wpList_plain hgd fun K hK => ?_
  have hl : (Builtin.zeroCells Z n).toList.length = n * size := by rw [Array.length_toList, size_zeroCells, hZ]
  have hst := run_storeCells_cells (P := P) b off (Builtin.zeroCells Z n).toList 0 w (fun j hj => by simpa using (ht j (by omega)).1) (fun j hj => by simpa using (ht j (by omega)).2) (zeroCells_one Z n h1 (by omega))
  obtain ⟨m, rfl⟩ : ∃ m, n = m + 1 := ⟨n - 1, by omega⟩
  have hrun : (Builtin.clear_ #[t] o.type #[.slice (some ⟨b, off, none⟩) (m + 1) cap]).run P w = .ok (.tuple #[]) (w.setCells b off (Builtin.zeroCells Z (m + 1)).toList) := by
    simp only [Nat.add_zero] at hst
    simp [Builtin.clear_, run_underlying hu, hz, Value.cells, hst, Result.andThen]
  unfold Oper.wp
  simp [execOp, ho, resolve, invoke, builtin, hx, hrun, Result.andThen]
  exact hK _ _ (h _ hl)
end Go.Proofs.Ytggljcdkiaggeaa
