/- Merged: DiskD, DiskDf, DiskDm. -/
import Derived.Test.YtenjpldinnbcbaaDiskCl
import Derived.Test.YtenjpldinnbcbaaDiskPut
import Derived.Deep.RegionHeld3
import Derived.Deep.DrawnRows
/- The walks of slices.IndexFunc and slices.DeleteFunc on writes, as disk's Damage calls them. -/

namespace Go.Proofs.Ytenjpldinnbcbaa
open Go.RowKit
set_option linter.unusedVariables false
set_option linter.unusedSimpArgs false
set_option maxRecDepth 100000
set_option maxHeartbeats 1000000

/-- block b is a row of m cells, of elements e -/
def RowAt (w : World) (b : Nat) (e : TypeId) (m : Nat) : Prop := ∃ cur, w.heap[b]? = some (.cells cur e (0, 0)) ∧ cur.size = m
theorem RowAt.setCells {e : TypeId} {m b : Nat} (b' : Nat) : ∀ (vs : List Value) (o : Nat) {w : World}, RowAt w b e m → RowAt (w.setCells b' o vs) b e m
  | [], _, _, h => h
  | v :: vs, o, w, h => by
    rw [World.setCells]
    refine RowAt.setCells b' vs (o + 1) ?_
    obtain ⟨cur, h1, h2⟩ := h
    by_cases hb : b = b'
    · subst hb
      refine ⟨cur.setIfInBounds o v, ?_, by simpa using h2⟩
      simp [World.setCell, Array.getElem?_modify, h1]
    · refine ⟨cur, ?_, h2⟩
      rw [Below.heap_setCell _ _ _ _ (by simpa using hb)]
      exact h1
theorem RowAt.fr {S : Nat → Prop} {w w' : World} {b m : Nat} {e : TypeId} (h : RowAt w b e m) (k : Fr S w w') (hb : ¬ S b) : RowAt w' b e m := by
  obtain ⟨cur, h1, h2⟩ := h
  exact ⟨cur, by rw [k.block b (lt_of_block h1) hb]; exact h1, h2⟩
theorem RowAt.there {w : World} {b m : Nat} {e : TypeId} (h : RowAt w b e m) : w.there b 0 m := by
  obtain ⟨cur, h1, h2⟩ := h
  intro j hj
  refine ⟨?_, ?_⟩
  · rw [Nat.zero_add, cell_of_row w b j cur _ _ h1, Array.getElem?_eq_getElem (by omega)]
    rfl
  · unfold World.frozen?
    show (match w.heap[b]? with | some (.cells _ _ (lo, hi)) => _ | _ => _) = _
    rw [h1]
    simp
theorem RowAt.own {w : World} {base b n cap size : Nat} {e : TypeId} {xs : List Value} (h : RowAt w b e (cap * size)) (hr : w.rangeAt b 0 xs) (hl : xs.length = n * size) (hb : base ≤ b) (hn : n ≤ cap) (hc : cap ≤ maxLen) :
    w.ownsRow base e size (.slice (some ⟨b, 0, none⟩) n cap) n xs := by
  obtain ⟨cur, h1, h2⟩ := h
  refine ⟨hl, .inr ⟨b, cap, cur, rfl, hb, h1, hn, hc, h2, ?_⟩⟩
  apply List.ext_getElem?
  intro j
  have hle : n * size ≤ cap * size := Nat.mul_le_mul_right _ hn
  have hcl : cur.toList.length = cap * size := by rw [Array.length_toList]; exact h2
  by_cases hj : j < n * size
  · have h3 := hr j xs[j] (List.getElem?_eq_getElem (by omega))
    rw [Nat.zero_add, cell_of_row w b j cur _ _ h1] at h3
    rw [List.getElem?_take_of_lt hj, Array.getElem?_toList, h3, List.getElem?_eq_getElem (by omega)]
  · rw [List.getElem?_eq_none (by rw [List.length_take]; omega), List.getElem?_eq_none (by omega)]
theorem RowAt.of_own {w : World} {base b n cap size : Nat} {e : TypeId} {xs : List Value} (h : w.ownsRow base e size (.slice (some ⟨b, 0, none⟩) n cap) n xs) : RowAt w b e (cap * size) ∧ w.rangeAt b 0 xs ∧ n ≤ cap ∧ cap ≤ maxLen := by
  obtain ⟨hl, h⟩ := h
  rcases h with ⟨e, _⟩ | ⟨b', cap', cur, e, h1, h2, h3, h4, h5, h6⟩
  · cases e
  · cases e
    refine ⟨⟨cur, h2, h5⟩, fun j v hj => ?_, h3, h4⟩
    rw [← h6] at hj
    have hlt := (List.getElem?_eq_some_iff.1 hj).1
    rw [List.length_take] at hlt
    rw [List.getElem?_take_of_lt (by omega)] at hj
    rw [Nat.zero_add, cell_of_row w b j cur _ _ h2]
    simpa using hj
/-- the closure: is the write at the place? -/
theorem dmg1_any (w : World) (v : Nat × List Nat) (hl : v.2.length = 32) (b4 : Nat) (a : Int) (hc : w.cell? ⟨b4, 0, none⟩ = some (.int .i64 a)) :
    Calls Try.prog 111 #[.agg (wcells v).toArray, .pointer (some ⟨b4, 0, none⟩)] w fun e w' => e = .returned (.bool (decide ((v.1 : Int) = a))) ∧ Below w.heap.size w w' := by
  have hc2 : (w.alloc (.cells (wcells v).toArray 141)).cell? ⟨b4, 0, none⟩ = some (.int .i64 a) := cell_fr hc (Fr.alloc (S := fun _ => False) _ _) id
  have hc3 : (w.alloc (.cells (wcells v).toArray 141)).cell? ⟨w.heap.size, 0, none⟩ = some (.int .i64 (v.1 : Nat)) := by
    rw [cell_of_row _ _ 0 _ _ _ (heap_alloc_new w _)]; rfl
  obtain ⟨cs, hcs⟩ : ∃ cs, cs = wcells v := ⟨_, rfl⟩
  rw [← hcs] at hc2 hc3 ⊢
  clear hcs hc
  go_enter Try.func111, Try.ntmps111
  go_wp2
  go_ret
  exact ⟨by congr 2, belA1 (belR w)⟩
theorem call_dmg1 (args : Array Value) (w : World) : (callFunc 111 args).run Try.prog w = .ok (.enter 111 args) w := by
  simp [callFunc, go_sem, Try.func111, Try.f111]
theorem pcells_range {w : World} {b : Nat} {p : List (Nat × List Nat)} (h : w.rangeAt b 0 (pcells p)) (hs : ∀ v ∈ p, v.2.length = 32) {k : Nat} {v : Nat × List Nat} (hv : p[k]? = some v) : w.rangeAt b (k * 33) (wcells v) := fun j u hu => by
  have := h (k * 33 + j) u (pcells_get hs hv j u hu)
  rwa [Nat.zero_add] at this
theorem indexf_any (w : World) (p : List (Nat × List Nat)) (ao : Option Addr) (cap b4 : Nat) (a : Int) (h1 : p.length ≤ cap) (h2 : cap ≤ 9223372036854775807) (hr : ∀ k v, p[k]? = some v → ∃ b, ao = some ⟨b, 0, none⟩ ∧ w.rangeAt b (k * 33) (wcells v)) (hs : ∀ v ∈ p, v.2.length = 32) (hc : w.cell? ⟨b4, 0, none⟩ = some (.int .i64 a)) :
    Calls Try.prog 120 #[.slice ao p.length cap, .func (.func 111) #[] #[.pointer (some ⟨b4, 0, none⟩)]] w fun e w' =>
      ∃ r, e = .returned (.int .i64 r) ∧ Below w.heap.size w w' ∧ ((r = -1 ∧ ∀ v ∈ p, (v.1 : Int) ≠ a) ∨ ∃ k : Nat, r = k ∧ k < p.length ∧ (∀ v ∈ p.take k, (v.1 : Int) ≠ a) ∧ ∀ v, p[k]? = some v → (v.1 : Int) = a) := by
  have hi82 := (zero_of_info write_info).2
  have HI := Lib.hid hi82
  have HR := Lib.hid hr
  have HS := Lib.hid hs
  have HC := Lib.hid hc
  have hE := call_dmg1
  clear hi82 hr hs hc
  go_enter Try.func120, Try.ntmps120
  go_wp2
  go_loopw [8] (fun i w' => ∃ k : Nat, k ≤ p.length ∧ i = .int .i64 k ∧ Hid (∀ v ∈ p.take k, (v.1 : Int) ≠ a) ∧ Below w.heap.size w w') (fun i _ => p.length - (intOf i).toNat)
  case atStart => exact ⟨0, Nat.zero_le _, rfl, Lib.hid (fun v hv => by simp at hv), belR w⟩
  case round =>
    obtain ⟨k, hk, rfl, hN, hW⟩ := hrel
    by_cases hlt : k < p.length
    · obtain ⟨v, hv⟩ : ∃ v, p[k]? = some v := ⟨_, List.getElem?_eq_getElem hlt⟩
      have hv3 : v.2.length = 32 := HS.out v (List.mem_of_getElem? hv)
      have HWL := Lib.hid (wcells_len hv3)
      obtain ⟨b, rfl, hrb⟩ := HR.out k v hv
      have HP : Hid (wr.rangeAt b (k * 33) (wcells v)) := rangeAt_fr hrb (Fr.of_below (S := fun _ => False) hW) id
      clear hrb
      have HC2 : Hid (wr.cell? ⟨b4, 0, none⟩ = some (.int .i64 a)) := cell_fr HC.out (Fr.of_below (S := fun _ => False) hW) id
      have HV := Lib.hid hv
      have HV3 := Lib.hid hv3
      have HT : Hid (p.take (k + 1) = p.take k ++ [v]) := take_succ_get hv
      clear hv hv3
      go_wp2_with (first
        | (refine wpList_load_mid rfl 141 _ rfl b (k * 33) rfl (wcells v) _ HP.out Try.underlying141 rfl (by rw [HWL.out]; exact HI.out) ?_)
        | fail)
      refine Calls.mono (dmg1_any wr v HV3.out b4 a HC2.out) ?_
      rintro e w2 ⟨rfl, hb2⟩
      by_cases heq : (v.1 : Int) = a
      · rw [decide_eq_true heq]
        have HE := Lib.hid heq
        clear heq
        go_wp2
        go_ret
        exact ⟨_, rfl, belT hW hb2, .inr ⟨k, rfl, hlt, hN.out, fun u hu => by rw [HV.out] at hu; cases hu; exact HE.out⟩⟩
      · rw [decide_eq_false heq]
        have HE := Lib.hid heq
        clear heq
        go_wp2
        go_roundw
        case rel =>
          refine ⟨k + 1, by omega, by go_num, Lib.hid ?_, belT hW hb2⟩
          rw [HT.out]
          intro u hu
          rcases List.mem_append.1 hu with h | h
          · exact hN.out u h
          · rw [List.mem_singleton.1 h]; exact HE.out
        case measure => simp [intOf]; omega
    · have hke : k = p.length := by omega
      have HK := Lib.hid hke
      clear hke
      go_wp2
      go_ret
      refine ⟨_, rfl, hW, .inl ⟨rfl, fun v hv => hN.out v ?_⟩⟩
      rw [HK.out, List.take_length]
      exact hv
theorem pcells_split {q : List (Nat × List Nat)} (h : ∀ v ∈ q, v.2.length = 32) : ∀ {i : Nat} {u : Nat × List Nat}, q[i]? = some u → ∃ A C, A.length = i * 33 ∧ pcells q = A ++ (wcells u ++ C) ∧ ∀ v, pcells (q.set i v) = A ++ (wcells v ++ C) := by
  induction q with
  | nil => intro i u hu; simp at hu
  | cons x q ih =>
    intro i u hu
    have hx := wcells_len (h x (.head _))
    cases i with
    | zero =>
      simp at hu
      subst hu
      exact ⟨[], pcells q, by simp, by unfold pcells; simp, fun v => by unfold pcells; simp⟩
    | succ i =>
      obtain ⟨A, C, h1, h2, h3⟩ := ih (fun v hv => h v (.tail _ hv)) (i := i) (u := u) (by simpa using hu)
      refine ⟨wcells x ++ A, C, by rw [List.length_append, hx, h1]; omega, ?_, fun v => ?_⟩
      · unfold pcells at h2 ⊢
        rw [List.flatMap_cons, h2, List.append_assoc]
      · have h4 := h3 v
        unfold pcells at h4 ⊢
        rw [List.set_cons_succ, List.flatMap_cons, h4, List.append_assoc]
theorem range_set {w : World} {b i : Nat} {q : List (Nat × List Nat)} {u v : Nat × List Nat} (h : w.rangeAt b 0 (pcells q)) (hs : ∀ v ∈ q, v.2.length = 32) (hu : q[i]? = some u) (hv : v.2.length = 32) (ht : w.there b (i * 33) 33) : (w.setCells b (i * 33) (wcells v)).rangeAt b 0 (pcells (q.set i v)) := by
  obtain ⟨A, C, h1, h2, h3⟩ := pcells_split hs hu
  rw [h2] at h
  rw [h3]
  have := range_upd (B' := wcells v) h (by rw [wcells_len hv, wcells_len (hs u (List.mem_of_getElem? hu))]) (by rw [h1, wcells_len hv]; exact ht)
  rw [h1] at this
  exact this
theorem range_take {w : World} {b i : Nat} {q : List (Nat × List Nat)} (h : w.rangeAt b 0 (pcells q)) : w.rangeAt b 0 (pcells (q.take i)) := by
  have e : pcells q = pcells (q.take i) ++ pcells (q.drop i) := by rw [← pcells_append, List.take_append_drop]
  rw [e] at h
  exact fun j v hv => h j v (by rw [List.getElem?_append_left (List.getElem?_eq_some_iff.1 hv).1]; exact hv)
/-- clear of a slice of structs in the middle of a block -/
theorem wpList_clear_mid {P : Program} {w : World} {ops : Array Oper} {rest : List Oper} {o : Oper} {a : Act} {Q : Exit → Act → World → Prop} (hgd : o.guard = none) (x : Operand) (t e : TypeId)
    (ho : o.op = .call { callee := .builtin .clear, args := #[x], argTypes := #[t] }) (hu : P.underlying t = some (.slice e)) (Z : Array Value) (size : Nat) (hz : ∀ w, (zeroValue e).run P w = .ok (.agg Z) w) (hZ : Z.size = size) (h1 : ∀ u ∈ Z.toList, u.oneCell' = true) (hs : 0 < size)
    (b off n cap : Nat) (hx : a.eval x = .slice (some ⟨b, off, none⟩) n cap) (h0 : 0 < n) (ht : w.there b off (n * size))
    (h : ∀ vs : List Value, vs.length = n * size → wpList P ops Q rest (a.put o.dst (.tuple #[])) (w.setCells b off vs)) : wpList P ops Q (o :: rest) a w := by
  refine wpList_plain hgd fun K hK => ?_
  have hl : (Builtin.zeroCells Z n).toList.length = n * size := by rw [Array.length_toList, size_zeroCells, hZ]
  have hst := run_storeCells_cells (P := P) b off (Builtin.zeroCells Z n).toList 0 w (fun j hj => by simpa using (ht j (by omega)).1) (fun j hj => by simpa using (ht j (by omega)).2) (zeroCells_one Z n h1 (by omega))
  obtain ⟨m, rfl⟩ : ∃ m, n = m + 1 := ⟨n - 1, by omega⟩
  have hrun : (Builtin.clear_ #[t] o.type #[.slice (some ⟨b, off, none⟩) (m + 1) cap]).run P w = .ok (.tuple #[]) (w.setCells b off (Builtin.zeroCells Z (m + 1)).toList) := by
    simp only [Nat.add_zero] at hst
    simp [Builtin.clear_, run_underlying hu, hz, Value.cells, hst, Result.andThen]
  unfold Oper.wp
  simp [execOp, ho, resolve, invoke, builtin, hx, hrun, Result.andThen]
  exact hK _ _ (h _ hl)
end Go.Proofs.Ytenjpldinnbcbaa
/- The walk of slices.DeleteFunc on writes. -/

namespace Go.Proofs.Ytenjpldinnbcbaa
open Go.RowKit
set_option linter.unusedVariables false
set_option linter.unusedSimpArgs false
set_option maxRecDepth 100000
set_option maxHeartbeats 1000000

/-- those that are not of the place -/
def notAt (a : Int) (p : List (Nat × List Nat)) : List (Nat × List Nat) := p.filter (fun v => decide ((v.1 : Int) ≠ a))
theorem notAt_id {a : Int} {p : List (Nat × List Nat)} (h : ∀ v ∈ p, (v.1 : Int) ≠ a) : notAt a p = p := by
  unfold notAt
  rw [List.filter_eq_self]
  intro v hv
  exact decide_eq_true (h v hv)
structure DelR (a : Int) (p q : List (Nat × List Nat)) (i j : Nat) : Prop where
  lt : i < j
  le : j ≤ p.length
  len : q.length = p.length
  front : q.take i = notAt a (p.take j)
  back : q.drop j = p.drop j
  sec : ∀ v ∈ q, v.2.length = 32
theorem DelR.keep {a : Int} {p q : List (Nat × List Nat)} {i j : Nat} {v : Nat × List Nat} (h : DelR a p q i j) (hv : p[j]? = some v) (hs : v.2.length = 32) (ha : (v.1 : Int) ≠ a) : DelR a p (q.set i v) (i + 1) (j + 1) := by
  have hj : j < p.length := (List.getElem?_eq_some_iff.1 hv).1
  refine ⟨by have := h.lt; omega, by omega, by rw [List.length_set]; exact h.len, ?_, ?_, ?_⟩
  · have hi : i < q.length := by have := h.lt; have := h.len; omega
    have e1 : (q.set i v)[i]? = some v := by rw [List.getElem?_set_self hi]
    rw [take_succ_get e1, take_succ_get hv]
    have e2 : (q.set i v).take i = q.take i := by rw [List.take_set_of_le (Nat.le_refl _)]
    rw [e2, h.front]
    unfold notAt
    rw [List.filter_append]
    congr 1
    simp [ha]
  · have e : (q.set i v).drop (j + 1) = q.drop (j + 1) := by rw [List.drop_set_of_lt (by have := h.lt; omega)]
    rw [e]
    have := congrArg (List.drop 1) h.back
    rwa [List.drop_drop, List.drop_drop] at this
  · intro u hu
    rcases List.mem_or_eq_of_mem_set hu with h1 | h1
    · exact h.sec u h1
    · rw [h1]; exact hs
theorem DelR.drop {a : Int} {p q : List (Nat × List Nat)} {i j : Nat} {v : Nat × List Nat} (h : DelR a p q i j) (hv : p[j]? = some v) (ha : (v.1 : Int) = a) : DelR a p q i (j + 1) := by
  have hj : j < p.length := (List.getElem?_eq_some_iff.1 hv).1
  refine ⟨by have := h.lt; omega, by omega, h.len, ?_, ?_, h.sec⟩
  · rw [take_succ_get hv, h.front]
    unfold notAt
    rw [List.filter_append]
    simp [ha]
  · have := congrArg (List.drop 1) h.back
    rwa [List.drop_drop, List.drop_drop] at this
theorem DelR.get {a : Int} {p q : List (Nat × List Nat)} {i j : Nat} {v : Nat × List Nat} (h : DelR a p q i j) (hv : p[j]? = some v) : q[j]? = some v := by
  have h1 := congrArg (fun l => l[0]?) h.back
  simp only [List.getElem?_drop, Nat.add_zero] at h1
  rw [h1]; exact hv
theorem DelR.done {a : Int} {p q : List (Nat × List Nat)} {i j : Nat} (h : DelR a p q i j) (hj : j = p.length) : q.take i = notAt a p := by rw [h.front, hj, List.take_length]
theorem DelR.start {a : Int} {p : List (Nat × List Nat)} {k : Nat} (hs : ∀ v ∈ p, v.2.length = 32) (hk : k < p.length) (h1 : ∀ v ∈ p.take k, (v.1 : Int) ≠ a) (h2 : ∀ v, p[k]? = some v → (v.1 : Int) = a) : DelR a p p k (k + 1) := by
  have hv : p[k]? = some p[k] := List.getElem?_eq_getElem hk
  refine ⟨by omega, by omega, rfl, ?_, rfl, hs⟩
  rw [take_succ_get hv]
  have e := notAt_id h1
  unfold notAt at e ⊢
  rw [List.filter_append, e]
  simp [h2 _ hv]
theorem del_any (w : World) (p : List (Nat × List Nat)) (b cap b4 : Nat) (a : Int) (base : Nat) (h : w.ownsRow base 141 33 (.slice (some ⟨b, 0, none⟩) p.length cap) p.length (pcells p)) (hs : ∀ v ∈ p, v.2.length = 32) (hc : w.cell? ⟨b4, 0, none⟩ = some (.int .i64 a)) (hne : b4 ≠ b) (hbase : base ≤ b) :
    Calls Try.prog 110 #[.slice (some ⟨b, 0, none⟩) p.length cap, .func (.func 111) #[] #[.pointer (some ⟨b4, 0, none⟩)]] w fun e w' =>
      ∃ v', e = .returned v' ∧ w'.ownsRow base 141 33 v' (notAt a p).length (pcells (notAt a p)) ∧ Fr (fun x => x = b) w w' := by
  obtain ⟨hz82, hi82⟩ := zero_of_info write_info
  obtain ⟨hrow, hrg, hn1, hn2⟩ := RowAt.of_own h
  have hix := indexf_any w p (some ⟨b, 0, none⟩) cap b4 a hn1 (by simpa [maxLen] using hn2) (fun k v hv => ⟨b, rfl, pcells_range hrg hs hv⟩) hs hc
  have HIX := Lib.hid hix
  have HH := Lib.hid h
  have HS := Lib.hid hs
  have HC := Lib.hid hc
  have HROW := Lib.hid hrow
  have HRG := Lib.hid hrg
  have HN2 := Lib.hid hn2
  have HI := Lib.hid hi82
  have hE := call_dmg1
  have hblt : b < w.heap.size := by obtain ⟨cur, h1, _⟩ := hrow; exact lt_of_block h1
  have hcapI : cap ≤ 9223372036854775807 := by simpa [maxLen] using hn2
  obtain ⟨Z, hZ⟩ : ∃ Z, Z = (wcells (0, List.replicate 32 0)).toArray := ⟨_, rfl⟩
  have HZS : Hid (Z.size = 33) := by show Z.size = 33; rw [hZ]; rfl
  have HZ1 : Hid (∀ u ∈ Z.toList, u.oneCell' = true) := by rw [hZ]; exact wcells_one _
  rw [← hZ] at hz82
  have HZR := Lib.hid hz82
  clear hix h hs hc hrow hrg hn2 hi82 hZ
  go_enter Try.func110, Try.ntmps110
  go_wp2_with fail
  refine Calls.mono HIX.out ?_
  rintro e w1 ⟨r, rfl, hb1, hr⟩
  rcases hr with ⟨rfl, hall⟩ | ⟨k, rfl, hk, hfr, heq⟩
  · have HA := Lib.hid hall
    clear hall
    go_wp2_with fail
    go_ret
    refine ⟨_, rfl, ?_, Fr.of_below hb1⟩
    rw [notAt_id HA.out]
    exact row_up HH.out hb1
  · have HST := Lib.hid (DelR.start HS.out hk hfr heq)
    have hkm : ((k : Int) == -1) = false := by rw [beq_eq_false_iff_ne]; omega
    clear hfr heq
    go_wp2_with fail
    clear hkm
    go_loopw [5, 6] (fun iv jv w' => ∃ (i j : Nat) (q : List (Nat × List Nat)), iv = .int .i64 i ∧ jv = .int .i64 j ∧ i < j ∧ j ≤ p.length ∧ Hid (DelR a p q i j) ∧ Hid (RowAt w' b 141 (cap * 33)) ∧ Hid (w'.rangeAt b 0 (pcells q)) ∧ Hid (Fr (fun x => x = b) w w')) (fun _ jv _ => p.length - (intOf jv).toNat)
    case atStart => exact ⟨k, k + 1, p, rfl, by first | rfl | go_num, by omega, by omega, HST, Lib.hid (HROW.out.fr (Fr.of_below (S := fun _ => False) hb1) id), Lib.hid (rangeAt_fr HRG.out (Fr.of_below (S := fun _ => False) hb1) id), Lib.hid (Fr.of_below hb1)⟩
    case round =>
      obtain ⟨i, j, q, rfl, rfl, hij, hjn, HD, HRW, HRN, HF⟩ := hrel
      have hblr : b < wr.heap.size := Nat.lt_of_lt_of_le hblt HF.out.size
      by_cases hlt : j < p.length
      · obtain ⟨v, hv⟩ : ∃ v, p[j]? = some v := ⟨_, List.getElem?_eq_getElem hlt⟩
        have hv3 : v.2.length = 32 := HS.out v (List.mem_of_getElem? hv)
        have HWL := Lib.hid (wcells_len hv3)
        have HWS : Hid ((wcells v).toArray.size = 33) := by show (wcells v).toArray.size = 33; rw [List.size_toArray]; exact HWL.out
        have HV := Lib.hid hv
        have HV3 := Lib.hid hv3
        have HP : Hid (wr.rangeAt b (j * 33) (wcells v)) := pcells_range HRN.out HD.out.sec (HD.out.get hv)
        obtain ⟨W2, hW2⟩ : ∃ W2, W2 = wr.alloc (.cells (wcells v).toArray 141) := ⟨_, rfl⟩
        have HB2 : Hid (W2.rangeAt wr.heap.size 0 (wcells v)) := by rw [hW2]; exact (Box.new wr (wcells v) _).range
        have HF2 : Hid (Fr (fun x => x = b) wr W2) := by rw [hW2]; exact Fr.alloc _ _
        have HC2 : Hid (W2.cell? ⟨b4, 0, none⟩ = some (.int .i64 a)) := cell_fr (cell_fr HC.out HF.out hne) HF2.out hne
        have HW2 := Lib.hid hW2
        have hs2 : Hid (wr.heap.size < W2.heap.size) := by show _ < _; rw [hW2]; simp
        clear hv hv3 hW2
        go_wp2_with (first
          | (refine wpList_load_mid rfl 141 _ rfl b (j * 33) rfl (wcells v) _ HP.out Try.underlying141 rfl (by rw [HWL.out]; exact HI.out) ?_)
          | (refine wpList_store_new rfl 141 _ _ rfl wr.heap.size wr rfl Z (wcells v).toArray rfl rfl rfl (by rw [HWS.out]; exact HI.out) (by rw [HZS.out, HWS.out]) (all_oneCell_toArray (wcells_one v)) ?_; rw [← HW2.out])
          | (refine wpList_load_mid rfl 141 _ rfl wr.heap.size 0 rfl (wcells v) _ HB2.out Try.underlying141 rfl (by rw [HWL.out]; exact HI.out) ?_)
          | fail)
        refine Calls.mono (dmg1_any W2 v HV3.out b4 a HC2.out) ?_
        rintro e w3 ⟨rfl, hb3⟩
        have HF3 := Lib.hid (HF.out.trans (HF2.out.trans (Fr.of_below hb3)))
        have HRW3 : Hid (RowAt w3 b 141 (cap * 33)) := by
          have h1 : RowAt W2 b 141 (cap * 33) := by rw [HW2.out]; exact HRW.out.fr (Fr.alloc (S := fun _ => False) _ _) id
          exact h1.fr (Fr.of_below (S := fun _ => False) hb3) id
        have HRN3 : Hid (w3.rangeAt b 0 (pcells q)) := by
          have h1 : W2.rangeAt b 0 (pcells q) := by rw [HW2.out]; exact rangeAt_fr HRN.out (Fr.alloc (S := fun _ => False) _ _) id
          exact rangeAt_fr h1 (Fr.of_below (S := fun _ => False) hb3) id
        have HB3 : Hid (w3.rangeAt wr.heap.size 0 (wcells v)) := rangeAt_fr HB2.out (Fr.of_below (S := fun _ => False) hb3) id
        by_cases heq : (v.1 : Int) = a
        · rw [decide_eq_true heq]
          have HE := Lib.hid heq
          clear heq
          go_wp2_with fail
          go_roundw
          case rel => exact ⟨i, j + 1, q, rfl, by go_num, by omega, by omega, Lib.hid (HD.out.drop HV.out HE.out), HRW3, HRN3, HF3⟩
          case measure => simp [intOf]; omega
        · rw [decide_eq_false heq]
          have HE := Lib.hid heq
          have hi1 : (0 : Int) ≤ (i : Int) := by omega
          have hi2 : (i : Int) < (p.length : Int) := by omega
          have HTH : Hid (w3.there b (i * 33) 33) := fun m hm => by
            have := HRW3.out.there (i * 33 + m) (by have h9 := Nat.mul_le_mul_right 33 (show i + 1 ≤ cap by omega); omega)
            rwa [Nat.zero_add] at this
          clear heq
          go_wp2_with (first
            | (refine wpList_load_mid rfl 141 _ rfl wr.heap.size 0 rfl (wcells v) _ HB3.out Try.underlying141 rfl (by rw [HWL.out]; exact HI.out) ?_)
            | (refine wpList_store_mid rfl 141 _ _ rfl b (i * 33) (wcells v).toArray rfl rfl (by rw [HWS.out]; exact HTH.out) (by rw [HWS.out]; exact HI.out) (all_oneCell_toArray (wcells_one v)) ?_)
            | fail)
          go_roundw
          case rel =>
            obtain ⟨u, hu⟩ : ∃ u, q[i]? = some u := ⟨_, List.getElem?_eq_getElem (by rw [HD.out.len]; omega)⟩
            exact ⟨i + 1, j + 1, q.set i v, by go_num, by go_num, by omega, by omega, Lib.hid (HD.out.keep HV.out HV3.out HE.out), Lib.hid (HRW3.out.setCells b _ _), Lib.hid (range_set HRN3.out HD.out.sec hu HV3.out HTH.out), Lib.hid (HF3.out.trans (Fr.cells _ _ _ _))⟩
          case measure => simp [intOf]; omega
      · have hje : j = p.length := by omega
        have HDone := Lib.hid (HD.out.done hje)
        have hi2 : i < p.length := by omega
        have hic : i < cap := by omega
        have HTH : Hid (wr.there b (i * 33) ((p.length - i) * 33)) := fun m hm => by
          have := HRW.out.there (i * 33 + m) (by have h9 := Nat.mul_le_mul_right 33 (show i + (p.length - i) ≤ cap by omega); rw [Nat.add_mul] at h9; omega)
          rwa [Nat.zero_add] at this
        have hi1I : (0 : Int) ≤ (i : Int) := by omega
        have hi2I : (i : Int) ≤ (p.length : Int) := by omega
        have hnc : ¬ cap = i := by omega
        clear hje
        go_wp2_with (first
          | (go_loud (refine wpList_clear_mid rfl _ 133 141 rfl Try.underlying133 Z 33 HZR.out HZS.out HZ1.out (by decide) b (i * 33) (p.length - i) (cap - i) rfl (by omega) HTH.out ?_); intro vs hvs)
          | fail)
        go_ret
        have hfl : (notAt a p).length = i := by rw [← HDone.out, List.length_take, HD.out.len]; omega
        have hrt : wr.rangeAt b 0 (pcells (notAt a p)) := by rw [← HDone.out]; exact range_take HRN.out
        have hsn : ∀ v ∈ notAt a p, v.2.length = 32 := fun v hv => HS.out v (List.mem_filter.1 hv).1
        have hpl := pcells_len hsn
        refine ⟨_, rfl, ?_, HF.out.trans (Fr.cells _ _ _ _)⟩
        rw [hfl]
        exact RowAt.own (HRW.out.setCells b _ _) (World.rangeAt_setCells_apart hrt b _ _ (.inr (.inl (by rw [hpl, hfl]; omega)))) (by rw [hpl, hfl]) hbase (by omega) HN2.out
end Go.Proofs.Ytenjpldinnbcbaa
/- The walk of disk's Damage. -/

namespace Go.Proofs.Ytenjpldinnbcbaa
open Go.RowKit
set_option linter.unusedVariables false
set_option linter.unusedSimpArgs false
set_option maxRecDepth 100000
set_option maxHeartbeats 1000000
attribute [local go_sem ↓] Go.wp_at_zero Go.wp_at_succ

theorem del_nil (w : World) (b4 : Nat) (a : Int) (hc : w.cell? ⟨b4, 0, none⟩ = some (.int .i64 a)) :
    Calls Try.prog 110 #[.slice none 0 0, .func (.func 111) #[] #[.pointer (some ⟨b4, 0, none⟩)]] w fun e w' => e = .returned (.slice none 0 0) ∧ Below w.heap.size w w' := by
  have hix := indexf_any w [] none 0 b4 a (Nat.le_refl _) (by decide) (fun k v hv => by simp at hv) (fun v hv => by cases hv) hc
  have HIX := Lib.hid hix
  clear hix hc
  go_enter Try.func110, Try.ntmps110
  go_wp2_with fail
  refine Calls.mono HIX.out ?_
  rintro e w1 ⟨r, rfl, hb1, hr⟩
  rcases hr with ⟨rfl, _⟩ | ⟨k, _, hk, _⟩
  · go_wp2_with fail
    go_ret
    exact ⟨rfl, hb1⟩
  · simp at hk
/-- DeleteFunc on what a clone of writes is -/
theorem del_row (w : World) (p : List (Nat × List Nat)) (v : Value) (b4 : Nat) (a : Int) (base : Nat) (h : w.ownsRow base 141 33 v p.length (pcells p)) (hs : ∀ v ∈ p, v.2.length = 32) (hc : w.cell? ⟨b4, 0, none⟩ = some (.int .i64 a)) (hne : b4 < base) :
    Calls Try.prog 110 #[v, .func (.func 111) #[] #[.pointer (some ⟨b4, 0, none⟩)]] w fun e w' =>
      ∃ v', e = .returned v' ∧ w'.ownsRow base 141 33 v' (notAt a p).length (pcells (notAt a p)) ∧ Fr (fun x => base ≤ x) w w' := by
  rcases h.2 with ⟨rfl, hn⟩ | ⟨b, cap, cur, rfl, hb, _⟩
  · have hp : p = [] := List.eq_nil_of_length_eq_zero hn
    subst hp
    exact (del_nil w b4 a hc).mono (by rintro e w' ⟨rfl, hb⟩; exact ⟨_, rfl, World.ownsRow_nil _ _ _ _, Fr.of_below hb⟩)
  · exact (del_any w p b cap b4 a base h hs hc (by omega) hb).mono (by rintro e w' ⟨v', rfl, h1, h2⟩; exact ⟨_, rfl, h1, h2.mono (fun x hx => by omega)⟩)
theorem dmg_no (w : World) (base g : Nat) (pv : Value) (d : D.Dk) (at' : Int) (bv : Value) (x : List Nat) (h : IsDisk w base g pv d) (hx : Byt w bv x) (hn : putI d at' x ≠ 0) :
    Calls Try.prog 84 #[.pointer (some ⟨g, 0, none⟩), .int .i64 at', bv] w fun e w' => e = .returned (.int .i64 (putI d at' x)) ∧ Below w.heap.size w w' := by
  obtain ⟨hz82, hi82⟩ := zero_of_info write_info
  obtain ⟨Z, hZ⟩ : ∃ Z, Z = (wcells (0, List.replicate 32 0)).toArray := ⟨_, rfl⟩
  have HZS : Hid (Z.size = 33) := by show Z.size = 33; rw [hZ]; rfl
  rw [← hZ] at hz82
  clear hZ
  have HI := Lib.hid hi82
  obtain ⟨m, hm⟩ : ∃ m, m = putI d at' x := ⟨_, rfl⟩
  obtain ⟨W1, hW1⟩ : ∃ W1, W1 = w.alloc (.cells #[.int .i64 at'] 3) := ⟨_, rfl⟩
  have hc := put_no W1 base g pv d at' bv x (by rw [hW1]; exact h.up (belA1 (belR w))) (by rw [hW1]; exact hx.alloc) hn
  have HB1 : Hid (Below w.heap.size w W1) := by rw [hW1]; exact belA1 (belR w)
  rw [← hm] at hc hn ⊢
  have hb : (m != 0) = true := by rw [bne_iff_ne]; exact hn
  have HC := Lib.hid hc
  have hcell : W1.cell? ⟨w.heap.size, 0, none⟩ = some (.int .i64 at') := by
    rw [hW1, cell_of_row _ _ 0 _ _ _ (heap_alloc_new w _)]; rfl
  rw [hW1] at hcell
  have HW1 := Lib.hid hW1
  clear hi82 hm hc hn h hx hW1
  go_enter Try.func84, Try.ntmps84
  go_wp2_with fail
  rw [← HW1.out]
  refine Calls.mono HC.out ?_
  rintro e w1 ⟨cs, rfl, hcl, hc1, hbel⟩
  have HCS : Hid (cs.toArray.size = 33) := by show cs.toArray.size = 33; rw [List.size_toArray]; exact hcl
  have HC1 := Lib.hid hc1
  have HCL := Lib.hid hcl
  clear hc1 hcl
  go_wp2_with (first
    | (refine wpList_store_new rfl 141 _ _ rfl w1.heap.size w1 rfl Z cs.toArray rfl rfl rfl (by rw [HCS.out]; exact HI.out) (by rw [HZS.out, HCS.out]) (all_oneCell_toArray HC1.out) ?_)
    | fail)
  go_ret
  exact ⟨rfl, belA1 (belT HB1.out hbel)⟩
theorem dmg_yes (w : World) (base g : Nat) (pv : Value) (d : D.Dk) (a : Nat) (bv : Value) (x : List Nat) (h : IsDisk w base g pv d) (hx : Byt w bv x) (hf : d.f = false) (ha : a < 52) (hl : x.length = 32) (hb0 : base ≤ w.heap.size) (hsz : d.p.length * 40 ≤ 140737488355328) :
    Calls Try.prog 84 #[.pointer (some ⟨g, 0, none⟩), .int .i64 a, bv] w fun e w' => e = .returned (.int .i64 0) ∧ ∃ pv', IsDisk w' base g pv' (D.damage d a x) ∧ Fr (fun b => b = g) w w' ∧ (∀ b, pv'.ownBlock = some b → w.heap.size ≤ b) := by
  obtain ⟨hz82, hi82⟩ := zero_of_info write_info
  obtain ⟨Z, hZ⟩ : ∃ Z, Z = (wcells (0, List.replicate 32 0)).toArray := ⟨_, rfl⟩
  have HZS : Hid (Z.size = 33) := by show Z.size = 33; rw [hZ]; rfl
  rw [← hZ] at hz82
  clear hZ
  have HI := Lib.hid hi82
  have HY := Lib.hid (zero_of_info sec_info).2
  obtain ⟨W1, hW1⟩ : ∃ W1, W1 = w.alloc (.cells #[.int .i64 (a : Int)] 3) := ⟨_, rfl⟩
  have D1 : IsDisk W1 base g pv d := by rw [hW1]; exact h.up (belA1 (belR w))
  have hc := put_yes W1 base g pv d a bv x D1 (by rw [hW1]; exact hx.alloc) hf ha hl
  have HB1 : Hid (Below w.heap.size w W1) := by rw [hW1]; exact belA1 (belR w)
  have hs1 : W1.heap.size = w.heap.size + 1 := by rw [hW1]; simp
  have hcell : W1.cell? ⟨w.heap.size, 0, none⟩ = some (.int .i64 (a : Int)) := by
    rw [hW1, cell_of_row _ _ 0 _ _ _ (heap_alloc_new w _)]; rfl
  have HCELL := Lib.hid hcell
  rw [hW1] at hcell
  have HW1 := Lib.hid hW1
  obtain ⟨cs, hcs⟩ : ∃ cs, cs = wcells (a, x) := ⟨_, rfl⟩
  have hcl : cs.length = 33 := by rw [hcs]; exact wcells_len hl
  have HCS : Hid (cs.toArray.size = 33) := by show cs.toArray.size = 33; rw [List.size_toArray]; exact hcl
  have HC1 : Hid (∀ u ∈ cs, u.oneCell' = true) := by rw [hcs]; exact wcells_one _
  have HCL := Lib.hid hcl
  have HCE := Lib.hid hcs
  have HX : Hid (∀ y ∈ x, y < 256) := hx.bytes
  have HL := Lib.hid hl
  have HD1 := Lib.hid D1
  have hg0 : g < w.heap.size := h.lt
  have HS1 := Lib.hid hs1
  rw [← hcs] at hc
  have HC := Lib.hid hc
  have ha0 : (0 : Int) ≤ (a : Int) := by omega
  have ha1 : (a : Int) < 52 := by omega
  clear hi82 hc h hx hcs hcl hl D1 hW1 hs1
  go_enter Try.func84, Try.ntmps84
  go_wp2_with fail
  rw [← HW1.out]
  refine Calls.mono HC.out ?_
  rintro e w1 ⟨rfl, hbel⟩
  obtain ⟨W2, hW2⟩ : ∃ W2, W2 = w1.alloc (.cells cs.toArray 141) := ⟨_, rfl⟩
  have HW2 := Lib.hid hW2
  have HB2 : Hid (W2.rangeAt w1.heap.size 1 (x.map u8v)) := by
    rw [hW2]
    intro j u hu
    rw [cell_of_row _ _ _ _ _ _ (heap_alloc_new w1 _), Nat.add_comm 1 j, HCE.out]
    simpa [wcells] using hu
  have HD2 : Hid (IsDisk W2 base g pv d) := by rw [hW2]; exact (HD1.out.up hbel).up (belA1 (belR w1))
  have HBl : Hid (Below w.heap.size w W2) := by rw [hW2]; exact belA1 (belT HB1.out hbel)
  have HCW : Hid (W2.cell? ⟨w.heap.size, 0, none⟩ = some (.int .i64 (a : Int))) := by
    rw [hW2]; exact cell_fr (cell_fr HCELL.out (Fr.of_below (S := fun _ => False) hbel) id) (Fr.alloc (S := fun _ => False) _ _) id
  have HT : Hid (W2.there g (a * 32) 32) := HD2.out.sec_there ha
  have hw1 : w.heap.size < w1.heap.size := by have := hbel.size; have := HS1.out; omega
  have HW2S : Hid (w1.heap.size < W2.heap.size) := by show _ < _; rw [hW2]; simp
  clear hW2 hcell
  go_wp2_with (first
    | (refine wpList_store_new rfl 141 _ _ rfl w1.heap.size w1 rfl Z cs.toArray rfl rfl rfl (by rw [HCS.out]; exact HI.out) (by rw [HZS.out, HCS.out]) (all_oneCell_toArray HC1.out) ?_; rw [← HW2.out])
    | fail)
  have hxl : (x.map u8v).length = 32 := by rw [List.length_map]; exact HL.out
  have hy1 := HY.out
  have hy2 : (Try.prog.info? 131).map (·.size) = some (x.map u8v).length := by rw [hxl]; exact HY.out
  have hu76 := Try.underlying131
  have hon := u8v_one x
  have k1 := HCW.out
  have k2 := HB2.out
  have k3 := HT.out
  go_region_held3 (fun w' => w'.cell? ⟨w.heap.size, 0, none⟩ = some (.int .i64 (a : Int)) ∧ w'.rangeAt w1.heap.size 1 (x.map u8v) ∧ w'.there g (a * 32) 32)
    ((go_split_ands; (try refine ⟨?_, ?_, ?_⟩) <;> first | assumption | (refine cell_cells ?_ ?_ <;> first | assumption | omega) | (refine rangeAt_cells ?_ ?_ <;> first | assumption | omega) | (apply World.there_setCells; assumption)))
    (fail)
  all_goals
    clear k1 k2 k3 hy1 hy2 hu76 hon hxl
    have HD3 : Hid (IsDisk (W2.drew.setCells g (a * 32) (x.map u8v)) base g pv { d with l := d.l.set a x }) := (HD2.out.up (belDr (belR _))).setSec ha HL.out HX.out
    obtain ⟨W3, hW3⟩ : ∃ W3, W3 = W2.drew.setCells g (a * 32) (x.map u8v) := ⟨_, rfl⟩
    have HF3 : Hid (Fr (fun b => b = g) w W3) := by rw [hW3]; exact ((Fr.of_below HBl.out).trans (Fr.drew _)).trans (Fr.cells _ _ _ _)
    have HC3 : Hid (W3.cell? ⟨w.heap.size, 0, none⟩ = some (.int .i64 (a : Int))) := by rw [hW3]; exact cell_cells (by simpa using HCW.out) (by omega)
    have HS3 : Hid (w.heap.size < W3.heap.size) := by
      rw [hW3]
      exact Nat.lt_of_lt_of_le (Nat.lt_of_lt_of_le hw1 (Nat.le_of_lt HW2S.out)) ((Fr.drew (S := fun b => b = g) W2).trans (Fr.cells _ _ _ _)).size
    rw [← hW3] at HD3 ⊢
    clear hW3
    have hpv := HD3.out.pv_cell
    go_wp2_with fail
    refine Calls.mono (clone_writes pv d.p base W3 HD3.out.pend HD3.out.ok.psec hsz) ?_
    rintro e w4 ⟨v4, rfl, O4, b4⟩
    go_wp2_with fail
    refine Calls.mono (del_row w4 d.p v4 w.heap.size (a : Int) W3.heap.size O4 HD3.out.ok.psec (cell_fr HC3.out (Fr.of_below (S := fun _ => False) b4) id) HS3.out) ?_
    rintro e w5 ⟨v5, rfl, O5, F5⟩
    obtain ⟨ao5, cap5, rfl⟩ := row_shape O5
    have hg3 : ¬ W3.heap.size ≤ g := by have := HD3.out.lt; omega
    have HR5 := Lib.hid (rangeAt_fr (rangeAt_fr HD3.out.cells (Fr.of_below (S := fun _ => False) b4) id) F5 hg3)
    have HT5 := Lib.hid (there_fr (there_fr HD3.out.there (Fr.of_below (S := fun _ => False) b4) id) F5 hg3)
    have hc5 := obj_pv HD3.out.ok HR5.out
    have hz5 := there_frozen (o := 1664) HT5.out (by decide)
    have HF5 := Lib.hid ((HF3.out.trans (Fr.of_below b4)).transN F5 (fun i hi => .inr (by have := HS3.out; omega)))
    have HO5 := Lib.hid O5
    clear O5 F5 hpv
    go_wp2_with fail
    go_ret
    refine ⟨rfl, .slice ao5 (notAt (a : Int) d.p).length cap5, ?_, HF5.out.trans (Fr.cell (w := w5) ⟨g, 1664, none⟩ _), fun b hb => by have := (HO5.out.lt b hb).1; have := HS3.out; omega⟩
    have hna : notAt (a : Int) d.p = (D.damage d a x).p := by
      unfold notAt D.damage
      apply List.filter_congr
      intro v _
      by_cases hv : v.1 = a
      · simp [hv]
      · simp [hv]; omega
    have hdk : D.damage d a x = { ({ d with l := d.l.set a x } : D.Dk) with p := notAt (a : Int) d.p } := by rw [hna]; rfl
    rw [hdk]
    refine IsDisk.setPv (d := { d with l := d.l.set a x }) HD3.out.ge (Nat.lt_of_lt_of_le hg0 HF5.out.size) HD3.out.ok HR5.out HT5.out ?_ ?_ ?_
    · refine ⟨HO5.out.1, ?_⟩
      rcases HO5.out.2 with h1 | ⟨b, c, cur, e1, h2, h3⟩
      · exact .inl h1
      · exact .inr ⟨b, c, cur, e1, by have := HS3.out; omega, h3⟩
    · intro e1
      have := (HO5.out.lt g e1).1
      omega
    · rw [← hdk]
      exact D.damage_ok HD2.out.ok HL.out HX.out
end Go.Proofs.Ytenjpldinnbcbaa
