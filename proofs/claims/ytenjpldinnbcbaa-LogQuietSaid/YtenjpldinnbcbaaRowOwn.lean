/- Merged: Make, Zero, RowOwn. -/
import Derived.Test.YtenjpldinnbcbaaNumL
import Derived.OwnWalk
import Derived.Lib.AppendZeros
import Derived.Lib.AppendZerosOnto
/- make([]byte, n) and copy(owned, any readable): the row behind them. Over any program. -/

namespace Go.Proofs.Ytenjpldinnbcbaa
open Go.RowKit
set_option linter.unusedVariables false
set_option linter.unusedSimpArgs false

theorem madeCells_one (z : Value) (n : Nat) : (madeCells #[z] n).toList = List.replicate n z := by
  unfold madeCells
  apply List.ext_getElem?
  intro j
  by_cases hj : j < n
  · simp [hj, Nat.mod_one]
  · simp [hj]
theorem belGN {a b c : World} (h : Below a.heap.size a b) (hg : b.grownBy c none) : Below a.heap.size a c := h.grown hg h.size (fun g hg => by cases hg)
theorem grown_below {b c : World} (hg : b.grownBy c none) : Below b.heap.size b c := belGN (belR b) hg
theorem Byt.drew {w : World} {v : Value} {l : List Nat} (h : Byt w v l) : Byt w.drew v l := h.up (belDN (belR w) 1)
theorem Byt.alloc {w : World} {v : Value} {l : List Nat} {o : Obj} (h : Byt w v l) : Byt (w.alloc o) v l := h.up (belA1 (belR w))
theorem Parts.drew {w : World} {v : Value} {l : List (List Nat)} (h : Parts w v l) : Parts w.drew v l := h.up (belDN (belR w) 1)
theorem Parts.alloc {w : World} {v : Value} {l : List (List Nat)} {o : Obj} (h : Parts w v l) : Parts (w.alloc o) v l := h.up (belA1 (belR w))
theorem belDr {a w : World} (h : Below a.heap.size a w) : Below a.heap.size a w.drew := belDN h 1
/-- make([]byte, n): n zeros are owned -/
theorem wpList_make_bytes {P : Program} {w : World} {ops : Array Oper} {rest : List Oper} {o : Oper} {a : Act} {Q : Exit → Act → World → Prop}
    (hg : o.guard = none) (l c : Operand) (t : TypeId) (hop : o.op = Op.makeSlice t l c)
    (i : TypeInfo) (h1 : P.underlying t = some (.slice 5)) (h2 : P.info? 5 = some i) (h3 : i.zero = some (.int .u8 0)) (h4 : i.size = 1) (h5 : i.bytes = 1)
    (kl kc : IntKind) (L C : Int) (n : Nat) (hl : a.eval l = .int kl L) (hc : a.eval c = .int kc C) (hL : L = (n : Int)) (hC : C = (n : Int)) (hn : n ≤ 1048576)
    (hK : ∀ w', Own w' w.heap.size (.slice (some ⟨w.heap.size, 0, none⟩) n n) (List.replicate n 0) → Below w.heap.size w w' → wpList P ops Q rest (a.put o.dst (.slice (some ⟨w.heap.size, 0, none⟩) n n)) w') :
    wpList P ops Q (o :: rest) a w := by
  refine wpList_make_full w hg l c t hop w.heap.size 5 i (.int .u8 0) 1 h1 h2 h3 h4 kl kc L C n hl hc hL hC (by rw [h5]; omega) (by simp only [maxLen]; omega) (Nat.le_refl _) ?_
  intro w' ho hgr
  refine hK w' ⟨fun x hx => by rw [List.eq_of_mem_replicate hx]; decide, ?_⟩ (grown_below hgr)
  rw [List.map_replicate, List.length_replicate]
  have e : (madeCells (Value.cells (.int .u8 0)) (n * 1)).toList = List.replicate n (u8v 0) := by
    rw [Nat.mul_one]; exact madeCells_one _ _
  rw [e] at ho
  exact ho
/-- what copy(d, s) makes of d -/
def over (L l : List Nat) : List Nat := l.take L.length ++ L.drop l.length
theorem over_len (L l : List Nat) : (over L l).length = L.length := by unfold over; simp; omega
theorem over_byte {L l : List Nat} (h : ∀ x ∈ L, x < 256) (h' : ∀ x ∈ l, x < 256) : ∀ x ∈ over L l, x < 256 := by
  intro x hx
  rcases List.mem_append.1 hx with h1 | h1
  · exact h' x (List.mem_of_mem_take h1)
  · exact h x (List.mem_of_mem_drop h1)
theorem over_zeros {n : Nat} {l : List Nat} (hl : l.length ≤ n) : over (List.replicate n 0) l = l ++ List.replicate (n - l.length) 0 := by
  unfold over; rw [List.length_replicate, List.drop_replicate, List.take_of_length_le hl]
theorem over_full {L l : List Nat} (hl : l.length = L.length) : over L l = l := by
  unfold over; rw [List.take_of_length_le (by omega), List.drop_of_length_le (by omega), List.append_nil]
/-- copy onto what the call owns, from any readable source in another block -/
theorem wpList_copy_bytes {P : Program} {w : World} {ops : Array Oper} {rest : List Oper} {o : Oper} {a : Act} {Q : Exit → Act → World → Prop} (hgd : o.guard = none) (d s : Operand) (dT sT : TypeId)
    (ho : o.op = .call { callee := .builtin .copy, args := #[d, s], argTypes := #[dT, sT] }) (hu : P.underlying dT = some (.slice 5)) (hsz : (P.info? 5).map (·.size) = some 1)
    (dv sv : Value) (hd : a.eval d = dv) (hs : a.eval s = sv) (base : Nat) (L l : List Nat) (hown : Own w base dv L) (hsrc : Byt w sv l)
    (h : ∀ w', Own w' base dv (over L l) → w.grownBy w' dv.ownBlock → wpList P ops Q rest (a.put o.dst (goInt (Nat.min l.length L.length))) w') : wpList P ops Q (o :: rest) a w := by
  obtain ⟨ao, cap, rfl, h1, h2, h0, h3, hA⟩ := hsrc
  obtain ⟨hL8, hlen, hrow⟩ := hown
  by_cases hz : Nat.min l.length L.length = 0
  · have e : over L l = L := by
      rcases Nat.min_eq_zero_iff.1 hz with h | h
      · have : l = [] := List.eq_nil_of_length_eq_zero h
        subst this; simp [over]
      · have : L = [] := List.eq_nil_of_length_eq_zero h
        subst this; simp [over]
    have hg : w.grownBy w dv.ownBlock := ⟨rfl, rfl, rfl, Nat.le_refl _, fun _ _ _ => rfl⟩
    rcases hrow with ⟨rfl, hn⟩ | ⟨g, cap', cur, rfl, hb, hg', r⟩
    · refine wpList_copy_nothing hgd d s dT sT ho 5 hu hsz none ao 0 0 l.length cap hd hs (by simp [Nat.min]) ?_
      rw [hz] at h
      exact h w (by rw [e]; exact ⟨hL8, hlen, .inl ⟨rfl, hn⟩⟩) hg
    · refine wpList_copy_nothing hgd d s dT sT ho 5 hu hsz _ ao L.length cap' l.length cap hd hs hz ?_
      rw [hz] at h
      exact h w (by rw [e]; exact ⟨hL8, hlen, .inr ⟨g, cap', cur, rfl, hb, hg', r⟩⟩) hg
  · rcases hrow with ⟨rfl, hn⟩ | ⟨g, cap', cur, rfl, hb, hg', r1, r2, r3, r4⟩
    · exact absurd (by rw [hn]; exact Nat.min_zero _) hz
    · have hmin : 0 < Nat.min l.length L.length := Nat.pos_of_ne_zero hz
      have hm1 : Nat.min l.length L.length ≤ l.length := Nat.min_le_left _ _
      have hm2 : Nat.min l.length L.length ≤ L.length := Nat.min_le_right _ _
      obtain ⟨b, off, rfl, hlt⟩ := hA.some_of (by simp; omega)
      have hcs : ((l.take L.length).map u8v).length = Nat.min l.length L.length := by simp [Nat.min_comm]
      rw [Nat.mul_one] at r3 r4
      refine wpList_copy_own hgd d s dT sT ho 5 hu hsz g 0 L.length cap' ⟨b, off, none⟩ l.length cap hd hs cur 5 hg' ((l.take L.length).map u8v) hcs ?_ (by rw [hcs]; omega) (u8v_one _) ?_
      · intro j v hj
        rcases hA with hA | ⟨b', off', e, _, hc⟩
        · have : l = [] := by simpa using hA
          subst this; simp at hj
        · cases e
          obtain ⟨hj1, hj2⟩ := List.getElem?_eq_some_iff.1 hj
          rw [hcs] at hj1
          rw [WideShapes.add_plain, hc j (by simp; omega), List.getElem?_map]
          rw [List.map_take, List.getElem?_take_of_lt (by omega), List.getElem?_map] at hj
          exact hj
      · rw [hcs]
        refine h _ ⟨over_byte hL8 h3, ?_, .inr ⟨g, cap', _, ?_, hb, setRow_heap w g _ _ _ _ hg', ?_, r2, ?_, ?_⟩⟩ ⟨rfl, rfl, rfl, by simp [World.setRow], fun k _ hk => setRow_other w g k _ (fun e => hk (by rw [e]; rfl))⟩
        · simp
        · rw [over_len]
        · rw [over_len]; exact r1
        · have hcl : cur.toList.length = cap' := by rw [Array.length_toList]; exact r3
          rw [Nat.mul_one, List.size_toArray, List.take_zero, List.nil_append, List.length_append, hcs, List.length_drop, hcl]
          revert hm2
          generalize Nat.min l.length L.length = m
          intro hm2
          omega
        · rw [over_len, Nat.mul_one]
          have hcl : cur.toList.length = cap' := by rw [Array.length_toList]; exact r3
          have hle : (l.take L.length).length ≤ L.length := by rw [List.length_take]; omega
          have e1 : 0 + Nat.min l.length L.length = (l.take L.length).length := by rw [← hcs]; simp
          simp only [List.take_zero, List.nil_append]
          rw [List.take_append, List.take_of_length_le (by simp; omega)]
          unfold over
          rw [List.map_append]
          congr 1
          rw [e1, List.length_map, List.take_drop, show (l.take L.length).length + (L.length - (l.take L.length).length) = L.length by omega, r4, ← List.map_drop]
          congr 1
          rw [List.length_take]
          by_cases hll : L.length ≤ l.length
          · rw [Nat.min_eq_left hll, List.drop_of_length_le (Nat.le_refl _), List.drop_of_length_le hll]
          · rw [Nat.min_eq_right (by omega)]
theorem Own.lenN {w : World} {base n cap : Nat} {ao : Option Addr} {l : List Nat} (h : Own w base (.slice ao n cap) l) : n = l.length := by
  rcases h.2.2 with ⟨e, h2⟩ | ⟨g, cap', cur, e, _⟩
  · cases e; exact h2.symm
  · cases e; rfl
theorem Own.store {w : World} {base g n cap : Nat} {l : List Nat} (h : Own w base (.slice (some ⟨g, 0, none⟩) n cap) l) (j x : Nat) (hx : x < 256) :
    Own (w.setCell ⟨g, j, none⟩ (.int .u8 (x : Nat))) base (.slice (some ⟨g, 0, none⟩) n cap) (l.set j x) ∧ w.grownBy (w.setCell ⟨g, j, none⟩ (.int .u8 (x : Nat))) (some g) := by
  obtain rfl := h.lenN
  obtain ⟨h1, h2⟩ := h.2.stored j (u8v x)
  refine ⟨⟨?_, ?_⟩, h2⟩
  · intro y hy
    rcases List.mem_or_eq_of_mem_set hy with h3 | h3
    · exact h.1 y h3
    · rw [h3]; exact hx
  · rw [List.length_set, List.map_set]
    exact h1
theorem Own.cells {w : World} {base g n cap : Nat} {l : List Nat} (h : Own w base (.slice (some ⟨g, 0, none⟩) n cap) l) {j x : Nat} (hj : l[j]? = some x) :
    x < 256 ∧ w.cell? ⟨g, j, none⟩ = some (.int .u8 (x : Nat)) ∧ w.frozen? ⟨g, j, none⟩ = false := by
  obtain rfl := h.lenN
  obtain ⟨hlt, e⟩ := List.getElem?_eq_some_iff.1 hj
  refine ⟨e ▸ h.1 _ (List.getElem_mem hlt), ?_, h.2.frozenAt j⟩
  rw [h.2.cellAt j (by omega), List.getElem?_map, hj]
  rfl
/-- append(owned, bytes) -/
theorem wpList_append_bytes {P : Program} {w : World} {ops : Array Oper} {rest : List Oper} {o : Oper} {a : Act} {Q : Exit → Act → World → Prop} (hgd : o.guard = none) (s x : Operand) (t : TypeId)
    (ho : o.op = .call { callee := .builtin .append, args := #[s, x], argTypes := #[t, t] })
    (i : TypeInfo) (ht : P.underlying t = some (.slice 5)) (hi : P.info? 5 = some i) (hz : i.zero = some (.int .u8 0)) (hsize : i.size = 1) (hby : i.bytes = 1)
    (base : Nat) (v : Value) (l : List Nat) (hs : a.eval s = v) (hown : Own w base v l) (xv : Value) (m : List Nat) (hx : a.eval x = xv) (hsrc : Byt w xv m)
    (h63 : l.length + m.length ≤ 140737488355328) (hbase : base ≤ w.heap.size)
    (h : ∀ v' w', Own w' base v' (l ++ m) → w.grownBy w' v.ownBlock → wpList P ops Q rest (a.put o.dst v') w') : wpList P ops Q (o :: rest) a w := by
  obtain ⟨ao, cap, rfl, h1, h2, h0, h3, hA⟩ := hsrc
  refine wpList_append_at hgd s x t ho base 5 i (.int .u8 0) 1 1 ht hi hz hsize hby rfl (by decide) v l.length (l.map u8v) hs hown.2 ao m.length cap (m.map u8v) hx h0 h1 (by simp) hA (u8v_one _) (by simp only [maxLen]; omega) (by omega) hbase ?_
  intro v' w' ho hg _
  refine h v' w' ⟨?_, ?_⟩ hg
  · intro y hy
    rcases List.mem_append.1 hy with h5 | h5
    · exact hown.1 y h5
    · exact h3 y h5
  · rw [List.length_append, List.map_append]; exact ho
theorem Byt.lit1 (w : World) (x : Nat) (e : TypeId) {g : Nat} {fr : Nat × Nat} (hg : g = w.heap.size) (hx : x < 256) :
    Byt (w.alloc (.cells #[.int .u8 (x : Nat)] e fr)) (.slice (some ⟨g, 0, none⟩) 1 1) [x] :=
  Byt.lit w _ e [x] hg rfl rfl (by intro y hy; rw [List.mem_singleton.1 hy]; exact hx) (by simp)
theorem Own.empty (w : World) (base : Nat) : Own w base (.slice none 0 0) [] := ⟨(fun x hx => by cases hx), World.ownsRow_nil _ _ _ _⟩
/-- the slice x[k:] -/
theorem Byt.dropI {w : World} {ao : Option Addr} {n cap k : Nat} {l : List Nat} (h : Byt w (.slice ao n cap) l) (hk : k ≤ n) : Byt w (.slice (if cap = k then ao else ao.map (·.add k)) (n - k) (cap - k)) (l.drop k) := by
  obtain ⟨ao', cap', e, h1, h2, h0, h3, h4⟩ := h
  cases e
  refine Byt.mk (by rw [List.length_drop]) (by omega) (by omega) ?_ (fun x hx => h3 x (List.mem_of_mem_drop hx)) ?_
  · split
    · intro _; omega
    · intro e
      cases ao with
      | none => rw [h0 rfl]; omega
      | some a => cases e
  · split
    · exact .inl (by simp; omega)
    · rcases h4 with h4 | ⟨b, off, rfl, r⟩
      · exact .inl (by rw [List.map_drop, h4, List.drop_nil])
      · rw [List.map_drop]
        have h5 := At.drop (.inr ⟨b, off, rfl, r⟩ : At w (some ⟨b, off, none⟩) (l.map u8v)) k
        simpa [WideShapes.add_plain] using h5
theorem Byt.takeI {w : World} {ao : Option Addr} {n cap k : Nat} {l : List Nat} (h : Byt w (.slice ao n cap) l) (hk : k ≤ n) : Byt w (.slice ao k cap) (l.take k) := by
  obtain ⟨ao', cap', e, h1, h2, h0, h3, h4⟩ := h
  cases e
  exact Byt.mk (by rw [List.length_take]; omega) (by omega) (by omega) h0 (fun x hx => h3 x (List.mem_of_mem_take hx)) (by rw [List.map_take]; exact h4.take k)
end Go.Proofs.Ytenjpldinnbcbaa
/- append(own, make([]T, k)...): k zeros behind what the call owns. Over any program. -/

namespace Go.Proofs.Ytenjpldinnbcbaa
open Go.RowKit
set_option linter.unusedVariables false
set_option linter.unusedSimpArgs false

theorem zeroCells_one (z : Array Value) (k : Nat) (h : ∀ u ∈ z.toList, u.oneCell' = true) (hs : 0 < z.size) : ∀ u ∈ (Builtin.zeroCells z k).toList, u.oneCell' = true := by
  intro u hu
  unfold Builtin.zeroCells at hu
  simp only [Array.toList_map, List.mem_map] at hu
  obtain ⟨i, _, rfl⟩ := hu
  have hi : i % z.size < z.size := Nat.mod_lt _ hs
  rw [getElem!_pos z (i % z.size) hi]
  exact h _ (Array.getElem_mem_toList hi)
theorem zeroCells_rep (z : Value) (k : Nat) : (Builtin.zeroCells #[z] k).toList = List.replicate k z := by
  unfold Builtin.zeroCells
  apply List.ext_getElem?
  intro j
  by_cases hj : j < k
  · simp [hj, Nat.mod_one]
  · simp [hj]
section
variable {P : Program} (w : World)
theorem run_append_room_zeros (t tn ty e : TypeId) (i : TypeInfo) (z : Value) (kq kn : IntKind) (ht : P.underlying t = some (.slice e)) (htn : P.underlying tn = some (.int kn)) (hi : P.info? e = some i) (hz : i.zero = some z)
    (hzs : z.cells.size = i.size) (h1 : ∀ u ∈ z.cells.toList, u.oneCell' = true)
    (g sLen sCap : Nat) (cur : Array Value) (hg : w.heap[g]? = some (.cells cur e (0, 0)))
    (k : Nat) (h0 : 0 < k) (hs : 0 < i.size) (hroom : sLen + k ≤ sCap) (hfit : sLen * i.size + k * i.size ≤ cur.size) (h63 : ((sLen + k : Nat) : Int) ≤ 9223372036854775807) (h48 : k * i.bytes ≤ 281474976710656) :
    (Builtin.append_ #[t, tn] ty #[.slice (some ⟨g, 0, none⟩) sLen sCap, .int kq k]).run P w =
      .ok (.slice (some ⟨g, 0, none⟩) (sLen + k) sCap) (w.setRow g (cur.toList.take (sLen * i.size) ++ (Builtin.zeroCells z.cells k).toList ++ cur.toList.drop (sLen * i.size + (Builtin.zeroCells z.cells k).toList.length)).toArray) := by
  have hk : k ≠ 0 := by omega
  have hw : IntKind.i64.wrap (k : Int) = k := by rw [IntKind.wrap_i64]; omega
  have h48i : ¬ (281474976710656 < (k : Int) * (i.bytes : Int)) := by
    rw [← Int.natCast_mul]
    omega
  have hneg : ¬ ((k : Int) < 0) := by omega
  have hns : ¬ (k * i.size = 0) := Nat.mul_ne_zero hk (by omega)
  have hlen : (Builtin.zeroCells z.cells k).toList.length = k * i.size := by rw [Array.length_toList, size_zeroCells, hzs]
  have hst := run_storeCells_at P g (sLen * i.size) e (Builtin.zeroCells z.cells k).toList 0 cur w hg (by rw [hlen]; simpa using hfit) (zeroCells_one _ _ h1 (by rw [hzs]; exact hs))
  simp only [Nat.add_zero] at hst
  simp [Builtin.append_, run_underlying ht, run_underlying htn, sizeOf, typeInfo, zeroValue, hi, hz, asInt, asIntOf, hw, hroom, hneg, hns, h48i, Addr.add_lit, hst]
theorem run_append_own_zeros (base t tn ty e : Nat) (i : TypeInfo) (z : Value) (size bytes : Nat) (kq kn : IntKind) (ht : P.underlying t = some (.slice e)) (htn : P.underlying tn = some (.int kn)) (hi : P.info? e = some i) (hz : i.zero = some z)
    (hsize : i.size = size) (hby : i.bytes = bytes) (hzs : z.cells.size = size) (hsz : 0 < size) (h1 : ∀ u ∈ z.cells.toList, u.oneCell' = true)
    (v : Value) (n : Nat) (xs : List Value) (hown : w.ownsRow base e size v n xs) (k : Nat) (h0 : 0 < k)
    (h63 : n + k ≤ maxLen) (hbytes : (n + k) * bytes ≤ 140737488355328) (hbase : base ≤ w.heap.size) :
    ∃ v' w', (Builtin.append_ #[t, tn] ty #[v, .int kq k]).run P w = .ok v' w' ∧ w'.ownsRow base e size v' (n + k) (xs ++ (Builtin.zeroCells z.cells k).toList) ∧ w.grownBy w' v.ownBlock := by
  subst hsize
  subst hby
  have hsmall : ((n + k : Nat) : Int) ≤ 9223372036854775807 := by simp only [maxLen] at h63; omega
  have hkb : k * i.bytes ≤ (n + k) * i.bytes := Nat.mul_le_mul_right _ (by omega)
  have hzl : (Builtin.zeroCells z.cells k).toList.length = k * i.size := by rw [Array.length_toList, size_zeroCells, hzs]
  have hlen : (xs ++ (Builtin.zeroCells z.cells k).toList).length = (n + k) * i.size := by rw [List.length_append, hown.1, hzl, Nat.add_mul]
  rcases hown.2 with ⟨rfl, rfl⟩ | ⟨g, cap, cur, rfl, hbg, hg, hnc, hcm, hcs, htake⟩
  · have hx : xs = [] := List.eq_nil_of_length_eq_zero (by simpa using hown.1)
    subst hx
    have hr := Lib.run_append_nil_zeros (P := P) w t tn ty e i z kq kn ht htn hi hz k h0 hsz (by omega) (by omega)
    have hge := grownCap_ge w k 0 e
    have hcm := grownCap_le_maxLen w k 0 e (by omega)
    refine ⟨_, _, hr, ⟨by simpa using hlen, .inr ⟨w.heap.size, _, _, by rw [Nat.zero_add], hbase, heap_alloc_new w.drew _, by omega, hcm, ?_, ?_⟩⟩, ⟨rfl, rfl, rfl, by simp, fun j hj _ => Below.heap_alloc w.drew _ j hj⟩⟩
    · rw [Array.size_append, size_zeroCells, size_zeroCells, hzs, ← Nat.add_mul]; congr 1; omega
    · rw [Nat.zero_add, List.nil_append, Array.toList_append, ← hzl]
      exact List.take_left
  · by_cases hroom : n + k ≤ cap
    · have hfit : n * i.size + k * i.size ≤ cur.size := by rw [hcs, ← Nat.add_mul]; exact Nat.mul_le_mul_right _ hroom
      have hr := run_append_room_zeros (P := P) w t tn ty e i z kq kn ht htn hi hz hzs h1 g n cap cur hg k h0 hsz hroom hfit hsmall (by omega)
      refine ⟨_, _, hr, ⟨hlen, .inr ⟨g, cap, _, rfl, hbg, setRow_heap w g cur _ e _ hg, hroom, hcm, ?_, ?_⟩⟩, ⟨rfl, rfl, rfl, by simp, fun k _ hk => setRow_other w g k _ (fun e => hk (by simp [Value.ownBlock, e]))⟩⟩
      · simp only [List.size_toArray, List.length_append, List.length_take, List.length_drop, Array.length_toList, hzl]
        simp only [Array.length_toList] at hzl
        omega
      · rw [htake, ← hlen]
        exact List.take_left
    · have holds : ∀ j u, xs[j]? = some u → w.cell? ((⟨g, 0, none⟩ : Addr).add j) = some u := hown.cells (g := g) rfl
      have hf := run_firstCells_some (P := P) w.drew i.size n ⟨g, 0, none⟩ n cap xs hown.1 (fun j u h => by simpa using holds j u h)
      have hr := Lib.run_append_grow_zeros (P := P) w t tn ty e i z kq kn ht htn hi hz (some ⟨g, 0, none⟩) n cap xs hf k h0 hsz (by omega) hsmall (by omega) (growslice_fits (by omega) hbytes)
      have hge := grownCap_ge w (n + k) cap e
      have hcm' := grownCap_le_maxLen w (n + k) cap e h63
      refine ⟨_, _, hr, ⟨hlen, .inr ⟨w.heap.size, _, _, rfl, hbase, heap_alloc_new w.drew _, hge, hcm', ?_, ?_⟩⟩, ⟨rfl, rfl, rfl, by simp, fun j hj _ => Below.heap_alloc w.drew _ j hj⟩⟩
      · simp only [Array.size_append, List.size_toArray, size_zeroCells, hzs, hown.1, ← Nat.add_mul]; congr 1; omega
      · rw [Array.toList_append, Array.toList_append, ← hlen]
        exact List.take_left
end
theorem wpList_append_zeros {P : Program} {w : World} {ops : Array Oper} {rest : List Oper} {o : Oper} {a : Act} {Q : Exit → Act → World → Prop} (hgd : o.guard = none) (s x : Operand) (t tn : TypeId)
    (ho : o.op = .call { callee := .builtin .append, args := #[s, x], argTypes := #[t, tn] })
    (base : Nat) (e : TypeId) (i : TypeInfo) (z : Value) (size bytes : Nat) (kq kn : IntKind) (ht : P.underlying t = some (.slice e)) (htn : P.underlying tn = some (.int kn)) (hi : P.info? e = some i) (hz : i.zero = some z)
    (hsize : i.size = size) (hby : i.bytes = bytes) (hzs : z.cells.size = size) (hsz : 0 < size) (h1 : ∀ u ∈ z.cells.toList, u.oneCell' = true)
    (v : Value) (n : Nat) (xs : List Value) (hs : a.eval s = v) (hown : w.ownsRow base e size v n xs) (k : Nat) (hx : a.eval x = .int kq (k : Int)) (h0 : 0 < k)
    (h63 : n + k ≤ maxLen) (hbytes : (n + k) * bytes ≤ 140737488355328) (hbase : base ≤ w.heap.size)
    (h : ∀ v' w', w'.ownsRow base e size v' (n + k) (xs ++ (Builtin.zeroCells z.cells k).toList) → w.grownBy w' v.ownBlock → wpList P ops Q rest (a.put o.dst v') w') : wpList P ops Q (o :: rest) a w := by
  obtain ⟨v', w', hr, h2, h3⟩ := run_append_own_zeros (P := P) w base t tn o.type e i z size bytes kq kn ht htn hi hz hsize hby hzs hsz h1 v n xs hown k h0 h63 hbytes hbase
  exact Lib.wpList_append_run w hgd s x t tn ho v (.int kq k) hs hx v' w' hr (h v' w' h2 h3)
theorem zero_one : ∀ u ∈ (Value.int .u8 0).cells.toList, u.oneCell' = true := by
  intro u hu
  simp [Value.cells] at hu
  subst hu
  rfl
end Go.Proofs.Ytenjpldinnbcbaa
/- A slice of slices of bytes that the call owns, each of them its own too: append(rows, row). Over any program. -/

namespace Go.Proofs.Ytenjpldinnbcbaa
open Go.RowKit
set_option linter.unusedVariables false
set_option linter.unusedSimpArgs false

/-- rows that are owned, each owned too -/
def OwnP (w : World) (base : Nat) (v : Value) (ls : List (List Nat)) : Prop :=
  ∃ cs, w.ownsRow base 48 1 v ls.length cs ∧ ∀ i, i < ls.length → ∃ c, cs[i]? = some c ∧ Own w base c (ls.getD i [])
theorem OwnP.nil (w : World) (base : Nat) : OwnP w base (.slice none 0 0) [] := ⟨[], World.ownsRow_nil _ _ _ _, fun i hi => by simp at hi⟩
theorem OwnP.parts {w : World} {base : Nat} {v : Value} {ls : List (List Nat)} (h : OwnP w base v ls) : Parts w v ls := by
  obtain ⟨cs, h1, h2⟩ := h
  exact Parts.of_own h1 (by have := h1.1; omega) fun i hi => let ⟨c, e, hc⟩ := h2 i hi; ⟨c, e, hc.byt⟩
theorem row_up {w w1 : World} {base n size : Nat} {e : TypeId} {v : Value} {xs : List Value} (h : w.ownsRow base e size v n xs) (hb : Below w.heap.size w w1) : w1.ownsRow base e size v n xs := by
  refine ⟨h.1, ?_⟩
  rcases h.2 with h2 | ⟨g, cap, cur, rfl, h3, hg, r⟩
  · exact .inl h2
  · exact .inr ⟨g, cap, cur, rfl, h3, by rw [hb.block g (lt_of_block hg)]; exact hg, r⟩
theorem OwnP.up {w w1 : World} {base : Nat} {v : Value} {ls : List (List Nat)} (h : OwnP w base v ls) (hb : Below w.heap.size w w1) : OwnP w1 base v ls := by
  obtain ⟨cs, h1, h2⟩ := h
  exact ⟨cs, row_up h1 hb, fun i hi => let ⟨c, e, hc⟩ := h2 i hi; ⟨c, e, hc.up hb⟩⟩
theorem OwnP.ge {w : World} {base : Nat} {v : Value} {ls : List (List Nat)} (h : OwnP w base v ls) : ∀ g, v.ownBlock = some g → base ≤ g := fun g hg => let ⟨_, h1, _⟩ := h; (h1.lt g hg).1
/-- a row of rows and a row lie in blocks of unlike types -/
theorem rows_apart {w : World} {base base' n : Nat} {v c : Value} {cs : List Value} {l : List Nat} (h : w.ownsRow base 48 1 v n cs) (h' : Own w base' c l) : c.ownBlock = none ∨ c.ownBlock ≠ v.ownBlock := by
  rcases h'.2.2 with ⟨rfl, _⟩ | ⟨g', cap', cur', rfl, _, hg', _⟩
  · exact .inl rfl
  · right
    rcases h.2 with ⟨rfl, _⟩ | ⟨g, cap, cur, rfl, _, hg, _⟩
    · intro e; cases e
    · intro e
      have e : g = g' := by simpa [Value.ownBlock] using e.symm
      subst e
      rw [hg] at hg'
      simp at hg'
theorem At.one (w : World) (v : Value) (e : TypeId) {g : Nat} {fr : Nat × Nat} (hg : g = w.heap.size) : At (w.alloc (.cells #[v] e fr)) (some ⟨g, 0, none⟩) [v] := by
  subst hg
  refine .inr ⟨w.heap.size, 0, rfl, by simp, fun i hi => ?_⟩
  rw [Nat.zero_add, cell_of_row _ w.heap.size i #[v] e fr (heap_alloc_new w _)]; simp
theorem Own.one {w : World} {base : Nat} {c : Value} {l : List Nat} (h : Own w base c l) : c.oneCell' = true := by
  obtain ⟨ao, cap, rfl, _⟩ := h.byt.shape
  rfl
theorem Own.keptRow {w w' : World} {base base' n : Nat} {v c : Value} {cs : List Value} {l : List Nat} (h' : Own w base' c l) (h : w.ownsRow base 48 1 v n cs) (hg : w.grownBy w' v.ownBlock) : Own w' base' c l := ⟨h'.1, h'.2.kept hg (rows_apart h h')⟩
/-- append(rows, row): rows owned, the row owned -/
theorem wpList_append_row {P : Program} {w : World} {ops : Array Oper} {rest : List Oper} {o : Oper} {a : Act} {Q : Exit → Act → World → Prop} (hgd : o.guard = none) (s x : Operand) (t : TypeId)
    (ho : o.op = .call { callee := .builtin .append, args := #[s, x], argTypes := #[t, t] })
    (i : TypeInfo) (ht : P.underlying t = some (.slice 48)) (hi : P.info? 48 = some i) (hz : i.zero = some (.slice none 0 0)) (hsize : i.size = 1) (hby : i.bytes = 24)
    (base : Nat) (v : Value) (ls : List (List Nat)) (hs : a.eval s = v) (hown : OwnP w base v ls) (ad : Addr) (c : Value) (l : List Nat) (hx : a.eval x = .slice (some ad) 1 1) (hat : At w (some ad) [c]) (hc : Own w base c l)
    (h63 : ls.length ≤ 1048576) (hbase : base ≤ w.heap.size)
    (h : ∀ v' w', OwnP w' base v' (ls ++ [l]) → w.grownBy w' v.ownBlock → wpList P ops Q rest (a.put o.dst v') w') : wpList P ops Q (o :: rest) a w := by
  obtain ⟨cs, h1, h2⟩ := hown
  refine wpList_append_at hgd s x t ho base 48 i (.slice none 0 0) 1 24 ht hi hz hsize hby rfl (by decide) v ls.length cs hs h1 (some ad) 1 1 [c] hx (fun e => by cases e) (Nat.le_refl _) rfl hat (fun u hu => by rw [List.mem_singleton.1 hu]; exact hc.one) (by simp only [maxLen]; omega) (by omega) hbase ?_
  intro v' w' ho hg _
  refine h v' w' ⟨cs ++ [c], by rw [List.length_append]; exact ho, ?_⟩ hg
  have hcl : cs.length = ls.length := by have := h1.1; omega
  intro j hj
  rw [List.length_append, List.length_singleton] at hj
  by_cases hjl : j < ls.length
  · obtain ⟨c', e, hc'⟩ := h2 j hjl
    refine ⟨c', by rw [List.getElem?_append_left (by omega)]; exact e, ?_⟩
    have e2 : (ls ++ [l]).getD j [] = ls.getD j [] := by simp [List.getD, List.getElem?_append_left hjl]
    rw [e2]
    exact hc'.keptRow h1 hg
  · have e : j = ls.length := by omega
    subst e
    refine ⟨c, by rw [List.getElem?_append_right (by omega)]; simp [hcl], ?_⟩
    have e2 : (ls ++ [l]).getD ls.length [] = l := by simp [List.getD]
    rw [e2]
    exact hc.keptRow h1 hg
/-- the first k of what is owned are owned -/
theorem Own.take {w : World} {base g n cap k : Nat} {l : List Nat} (h : Own w base (.slice (some ⟨g, 0, none⟩) n cap) l) (hk : k ≤ n) : Own w base (.slice (some ⟨g, 0, none⟩) k cap) (l.take k) := by
  have hn := h.lenN
  refine ⟨fun x hx => h.1 x (List.mem_of_mem_take hx), by simp, ?_⟩
  rcases h.2.2 with ⟨e, _⟩ | ⟨g', cap', cur, e, h3, hg, h4, h5, h6, h7⟩
  · cases e
  · cases e
    have hl : (l.take k).length = k := by rw [List.length_take]; omega
    rw [hl]
    refine .inr ⟨g, cap, cur, rfl, h3, hg, by omega, h5, h6, ?_⟩
    rw [List.map_take, ← h7, List.take_take, Nat.mul_one, Nat.mul_one, ← hn, Nat.min_eq_left hk]
theorem own_mono {w : World} {base base' : Nat} {v : Value} {l : List Nat} (h : Own w base v l) (hb : base' ≤ base) : Own w base' v l := by
  refine ⟨h.1, h.2.1, ?_⟩
  rcases h.2.2 with h2 | ⟨g, cap, cur, rfl, h3, r⟩
  · exact .inl h2
  · exact .inr ⟨g, cap, cur, rfl, Nat.le_trans hb h3, r⟩
end Go.Proofs.Ytenjpldinnbcbaa
