/- Merged: SlR, SlW, SlB. -/
import Derived.Test.YtenjpldinnbcbaaSupD
import Derived.Test.YtenjpldinnbcbaaBkG
import Derived.Deep.CutRange
import Derived.Test.YtenjpldinnbcbaaLive
/- Rows of Supers that are owned; append of a Super; which Supers stand on a disk. -/

namespace Go.Proofs.Ytenjpldinnbcbaa
open Go.RowKit C
set_option linter.unusedVariables false
set_option linter.unusedSimpArgs false
set_option maxRecDepth 100000
set_option maxHeartbeats 4000000

def scl (s : Sup) : List Value := [.int .i64 s.gen, .int .i64 s.a.l, .int .i64 s.a.d, .int .i64 s.a.c, .int .i64 s.b.l, .int .i64 s.b.d, .int .i64 s.b.c, .bool s.run, .int .i64 s.win, .int .i64 s.ep, .int .i64 s.out]
def OwnS (w : World) (base : Nat) (v : Value) (T : List Sup) : Prop := w.ownsRow base 72 11 v T.length (T.flatMap scl)
theorem scl_len (T : List Sup) : (T.flatMap scl).length = T.length * 11 := by
  induction T with
  | nil => rfl
  | cons p T ih => rw [List.flatMap_cons, List.length_append, ih, List.length_cons]; show 11 + _ = _; omega
theorem scl_get : ∀ (T : List Sup) (i : Nat) (s : Sup), T[i]? = some s → ∀ j, j < 11 → (T.flatMap scl)[i * 11 + j]? = (scl s)[j]? := by
  intro T
  induction T with
  | nil => intro i p h; cases h
  | cons q T ih =>
    intro i s h j hj
    rw [List.flatMap_cons]
    cases i with
    | zero => cases h; rw [Nat.zero_mul, Nat.zero_add, List.getElem?_append_left (by show j < 11; exact hj)]
    | succ i =>
      have := ih i s h j hj
      rw [List.getElem?_append_right (by show 11 ≤ _; omega), show (i + 1) * 11 + j - (scl q).length = i * 11 + j by show _ - 11 = _; omega]
      exact this
theorem scl_one {T : List Sup} : ∀ u ∈ T.flatMap scl, u.oneCell' = true := by
  intro u hu
  obtain ⟨p, hp, hup⟩ := List.mem_flatMap.1 hu
  simp only [scl, List.mem_cons, List.not_mem_nil, or_false] at hup
  rcases hup with rfl | rfl | rfl | rfl | rfl | rfl | rfl | rfl | rfl | rfl | rfl <;> rfl
theorem OwnS.nil (w : World) (base : Nat) : OwnS w base (.slice none 0 0) [] := World.ownsRow_nil _ _ _ _
theorem OwnS.up {w w' : World} {base : Nat} {v : Value} {T : List Sup} (h : OwnS w base v T) (hb : Below w.heap.size w w') : OwnS w' base v T := row_up h hb
theorem OwnS.ge {w : World} {base : Nat} {v : Value} {T : List Sup} (h : OwnS w base v T) : ∀ g, v.ownBlock = some g → base ≤ g := fun g hg => (World.ownsRow.lt h g hg).1
theorem OwnS.shape {w : World} {base : Nat} {v : Value} {T : List Sup} (h : OwnS w base v T) : ∃ ao cap, v = .slice ao T.length cap ∧ T.length ≤ cap ∧ cap ≤ 9223372036854775807 := by
  have h0 : w.ownsRow base 72 11 v T.length (T.flatMap scl) := h
  rcases h0.2 with ⟨rfl, hn⟩ | ⟨b, cap, cur, rfl, _, _, k, k2, _⟩
  · exact ⟨none, 0, by rw [hn], by omega, by omega⟩
  · exact ⟨_, cap, rfl, k, k2⟩
theorem OwnS.cellsAt {w : World} {base n cap : Nat} {ao : Option Addr} {T : List Sup} (h : OwnS w base (.slice ao n cap) T) {i : Nat} {s : Sup} (hp : T[i]? = some s) :
    ∃ g, ao = some ⟨g, 0, none⟩ ∧ ∀ j, j < 11 → w.cell? ⟨g, i * 11 + j, none⟩ = (scl s)[j]? := by
  have hi := (List.getElem?_eq_some_iff.1 hp).1
  have h0 : w.ownsRow base 72 11 (.slice ao n cap) T.length (T.flatMap scl) := h
  rcases h0.2 with ⟨e, hn⟩ | ⟨g, cap', cur, e, _⟩
  · omega
  · cases e
    refine ⟨g, rfl, fun j hj => ?_⟩
    have hg := scl_get T i s hp j hj
    have hjl : j < (scl s).length := hj
    rw [List.getElem?_eq_getElem hjl] at hg ⊢
    have := h0.cells (g := g) rfl _ _ hg
    rwa [Addr.add_mid, Nat.zero_add] at this
theorem wpList_append_sup {P : Program} {w : World} {ops : Array Oper} {rest : List Oper} {o : Oper} {a : Act} {Q : Exit → Act → World → Prop} (hgd : o.guard = none) (s x : Operand) (t : TypeId)
    (ho : o.op = .call { callee := .builtin .append, args := #[s, x], argTypes := #[t, t] })
    (i : TypeInfo) (z : Value) (ht : P.underlying t = some (.slice 72)) (hi : P.info? 72 = some i) (hz : i.zero = some z) (hsize : i.size = 11) (by' : Nat) (hby : i.bytes = by') (hb1 : by' ≤ 1000) (hzs : z.cells.size = 11)
    (base : Nat) (v : Value) (T : List Sup) (hs : a.eval s = v) (hown : OwnS w base v T) (g m c : Nat) (q : Sup) (hx : a.eval x = .slice (some ⟨g, 0, none⟩) m c) (hm : m = 1)
    (hnews : ∀ j, j < 11 → w.cell? ⟨g, j, none⟩ = (scl q)[j]?)
    (h63 : T.length + 1 ≤ 1048576) (hbase : base ≤ w.heap.size)
    (h : ∀ v' w', OwnS w' base v' (T ++ [q]) → w.grownBy w' v.ownBlock → wpList P ops Q rest (a.put o.dst v') w') : wpList P ops Q (o :: rest) a w :=
  wpList_plain hgd fun _ hK => by
    subst hm
    have hn' : ∀ j u, ([q].flatMap scl)[j]? = some u → w.cell? ((⟨g, 0, none⟩ : Addr).add j) = some u := by
      intro j u hu
      have hj : j < 11 := by have := (List.getElem?_eq_some_iff.1 hu).1; simpa [scl] using this
      rw [Addr.add_mid, Nat.zero_add, hnews j hj]
      simpa using hu
    obtain ⟨v', w', hr, h2, h3, _⟩ := run_append_own (P := P) w base t o.type 72 i z 11 by' ht hi hz hsize hby hzs (by decide) v T.length (T.flatMap scl) hown ⟨g, 0, none⟩ 1 c ([q].flatMap scl) (scl_len [q]) hn' scl_one (by simp only [maxLen]; omega) (by have : (T.length + 1) * by' ≤ 1048576 * 1000 := Nat.mul_le_mul h63 hb1; omega) hbase
    unfold Oper.wp execOp
    simp only [ho, resolve, invoke, builtin, Sem.run_bind, Sem.run_pure, Result.andThen_ok, List.map_toArray, List.map_cons, List.map_nil, hs, hx, hr]
    refine hK _ _ (h v' w' ?_ h3)
    show World.ownsRow _ _ _ _ _ _ _
    rw [List.length_append, List.flatMap_append]; exact h2
namespace B
/-- the Super that stands in a slot -/
def supAt (b : Bn) (i a : Nat) : List Sup := if (if failB b i then false else Sup.is (lookB b i a)) then [Sup.parse (lookB b i a)] else []
def sups (b : Bn) (i : Nat) : List Sup := supAt b i 0 ++ supAt b i 1
def newer (s : Sup) (l : List Sup) : Sup := l.foldl (fun s x => if s.gen < x.gen then x else s) s
def bestN (b : Bn) : Nat → Sup
  | 0 => Sup.zero
  | n + 1 => newer (bestN b n) (sups b n)
def nearB (s : Sup) (l : List Sup) : Bool := l.any (fun x => decide (s.gen - 1 ≤ x.gen))
end B
end Go.Proofs.Ytenjpldinnbcbaa
/- The walk of slots.slots. -/

namespace Go.Proofs.Ytenjpldinnbcbaa
open Go.RowKit C
set_option linter.unusedVariables false
set_option linter.unusedSimpArgs false
set_option maxRecDepth 100000
set_option maxHeartbeats 4000000

def supsJ (b : B.Bn) (i : Nat) : Nat → List Sup
  | 0 => []
  | j + 1 => supsJ b i j ++ B.supAt b i j
theorem super_inf : (Try.prog.info? 72).map (fun i => (i.zero, i.size, i.bytes)) = some (some (sv Sup.zero), 11, 88) := by kernel_rfl
theorem Sup.is_nil : Sup.is [] = false := rfl
theorem supAt_yes {b : B.Bn} {i a : Nat} (h : Sup.is (if B.failB b i then [] else B.lookB b i a) = true) : B.supAt b i a = [Sup.parse (if B.failB b i then [] else B.lookB b i a)] := by
  unfold B.supAt
  by_cases hf : B.failB b i = true
  · rw [if_pos hf] at h; exact absurd h (by decide)
  · rw [if_neg hf] at h ⊢; rw [if_neg hf, if_pos h]
theorem supAt_no {b : B.Bn} {i a : Nat} (h : Sup.is (if B.failB b i then [] else B.lookB b i a) = false) : B.supAt b i a = [] := by
  unfold B.supAt
  by_cases hf : B.failB b i = true
  · rw [if_pos hf]; rfl
  · rw [if_neg hf] at h ⊢; rw [if_neg (by rw [h]; decide)]
theorem news_sup (W : World) (P : Sup) (t : TypeId) {g : Nat} (hg : g = W.heap.size) : ∀ j, j < 11 → (W.alloc (.cells #[.int .i64 P.gen, .int .i64 P.a.l, .int .i64 P.a.d, .int .i64 P.a.c, .int .i64 P.b.l, .int .i64 P.b.d, .int .i64 P.b.c, .bool P.run, .int .i64 P.win, .int .i64 P.ep, .int .i64 P.out] t)).cell? ⟨g, j, none⟩ = (scl P)[j]? := by
  intro j hj
  subst hg
  rw [cell_of_row _ _ j _ _ _ (heap_alloc_new W _)]
  simp [scl]
theorem OwnS.low {w : World} {base base' : Nat} {v : Value} {T : List Sup} (h : OwnS w base v T) (hb : base' ≤ base) : OwnS w base' v T := by
  have h0 : w.ownsRow base 72 11 v T.length (T.flatMap scl) := h
  refine ⟨h0.1, ?_⟩
  rcases h0.2 with ⟨e, hn⟩ | ⟨b, cap, cur, e, hge, r⟩
  · exact .inl ⟨e, hn⟩
  · exact .inr ⟨b, cap, cur, e, Nat.le_trans hb hge, r⟩
theorem supsJ_len (b : B.Bn) (i j : Nat) : (supsJ b i j).length ≤ j := by
  induction j with
  | zero => exact Nat.le_refl _
  | succ j ih =>
    show (supsJ b i j ++ B.supAt b i j).length ≤ _
    rw [List.length_append]
    have : (B.supAt b i j).length ≤ 1 := by unfold B.supAt; generalize (if B.failB b i = true then false else Sup.is (B.lookB b i j)) = q; cases q; exact Nat.zero_le 1; exact Nat.le_refl 1
    omega
attribute [local irreducible] Go.Calls Byt Own Parts PA BA Bools OwnD OwnS
theorem slots_any (w : World) (base g : Nat) (lv : Value) (hs : List (Nat × Value)) (b : B.Bn) (i : Nat) (h : IsBench w base g lv hs b) (hL : B.Lv b) (hi : i < b.ds.length) (hn : b.ds.length ≤ 8) :
    Calls Try.prog 80 #[.pointer (some ⟨g, 0, none⟩), .int .i64 (i : Int)] w fun r w' => ∃ v, r = .returned v ∧ OwnS w' w.heap.size v (B.sups b i) ∧ Below w.heap.size w w' := by
  obtain ⟨j0, hj, hy0, hy1, hy2⟩ := info_parts super_inf
  have HB := Lib.hid h
  have HL := Lib.hid hL
  have HI := Lib.hid hi
  clear h hL hi
  obtain ⟨w1, hw1⟩ : ∃ w1, w1 = w.alloc (.cells #[.int .i64 0, .int .i64 1] 3) := ⟨_, rfl⟩
  have hs1 : w1.heap.size = w.heap.size + 1 := by rw [hw1]; simp
  have b1 : Below w.heap.size w w1 := by rw [hw1]; exact belA1 (belR _)
  have hc1 : ∀ j, j < 2 → w1.cell? ⟨w.heap.size, j, none⟩ = some (.int .i64 (j : Nat)) := by
    intro j hj
    rw [hw1, cell_of_row _ _ j _ _ _ (heap_alloc_new w _)]
    have : j = 0 ∨ j = 1 := by omega
    rcases this with rfl | rfl <;> rfl
  have HW1 := Lib.hid hw1
  have HC1 := Lib.hid hc1
  go_enter Try.func80, Try.ntmps80
  clear hw1 hc1
  go_wp2
  rw [← HW1.out]
  go_loopw [5, 14] (fun ov jv X => ∃ j : Nat, j ≤ 2 ∧ jv = .int .i64 j ∧ Hid (OwnS X w1.heap.size ov (supsJ b i j)) ∧ Below w1.heap.size w1 X) (fun _ jv _ => 2 - (intOf jv).toNat)
  case atStart => exact ⟨0, Nat.zero_le _, rfl, Lib.hid (OwnS.nil _ _), belR _⟩
  case round =>
    obtain ⟨j, hj2, rfl, HO, BX⟩ := hrel
    by_cases hlt : j < 2
    · have hj1 : IntKind.i64.wrap ((j : Int) + 1) = ((j + 1 : Nat) : Int) := by rw [IntKind.wrap_i64]; omega
      have hjI : (j : Int) < 2 := by omega
      have hj0 : (0 : Int) ≤ (j : Int) := by omega
      have hcc : wr.cell? ⟨w.heap.size, j, none⟩ = some (.int .i64 (j : Nat)) := (BX.cell (p := ⟨w.heap.size, j, none⟩) (by show w.heap.size < _; omega)).trans (HC1.out j hlt)
      have B1X := belT b1 BX
      have HRD := bread_lv wr base g lv hs b i j (HB.out.up B1X) HL.out HI.out (by omega)
      obtain ⟨L, hLd⟩ : ∃ L, L = if B.failB b i then [] else B.lookB b i j := ⟨_, rfl⟩
      rw [← hLd] at HRD
      obtain ⟨er, her⟩ : ∃ er : Int, er = if B.failB b i then 5 else 0 := ⟨_, rfl⟩
      rw [← her] at HRD
      have HRD := Lib.hid HRD
      have HLT := Lib.hid hlt
      have HLd := Lib.hid hLd
      clear hlt hLd her
      go_wp2_with fail
      refine Calls.mono HRD.out ?_
      rintro r w2 ⟨xv, rfl, O2, b2⟩
      have HDC := Lib.hid (sdecode_any xv L w2 O2.byt)
      have O3 := Lib.hid (HO.out.up b2)
      have B2X := belT BX b2
      clear O2 HO b2
      cases hk : Sup.is L with
      | true =>
        have hS : Hid (supsJ b i (j + 1) = supsJ b i j ++ [Sup.parse L]) := by
          show _ = _
          show supsJ b i j ++ B.supAt b i j = _
          have hk' := hk
          rw [HLd.out] at hk' ⊢
          rw [supAt_yes hk']
        obtain ⟨P, hP⟩ : ∃ P, P = Sup.parse L := ⟨_, rfl⟩
        have HDC2 : Hid (Calls Try.prog 107 #[xv] w2 fun e w' => e = .returned (.tuple #[sv P, .int .i64 0]) ∧ Below w2.heap.size w2 w') := by
          refine Calls.mono HDC.out ?_
          rintro e w' ⟨rfl, bb⟩
          exact ⟨by rw [hk, hP]; rfl, bb⟩
        rw [← hP] at hS
        unfold sv at HDC2
        clear HDC hk hP
        go_wp2_with fail
        refine Calls.mono HDC2.out ?_
        rintro r w3 ⟨rfl, b3⟩
        have O4 := Lib.hid (O3.out.up b3)
        obtain ⟨ao, cap, rfl, hc5, hc6⟩ := O4.out.shape
        have O5 : Hid (∀ o1 o2, OwnS ((w3.alloc o1).alloc o2) w1.heap.size (.slice ao (supsJ b i j).length cap) (supsJ b i j)) := Lib.hid (fun o1 o2 => O4.out.up (belA2 (belR _)))
        have hbb : Hid (w1.heap.size ≤ w3.heap.size ∧ (supsJ b i j).length ≤ 2) := Lib.hid ⟨(belT B2X b3).size, by have := supsJ_len b i j; have := HLT.out; omega⟩
        go_wp2_with (at_builtin; go_loud (refine wpList_append_sup rfl _ _ 122 rfl j0 (sv Sup.zero) Try.underlying122 hj hy0 hy1 88 hy2 (by decide) rfl w1.heap.size _ (supsJ b i j) rfl (O5.out _ _) (w3.heap.size + 1) 1 1 P rfl rfl (news_sup _ _ _ (by simp)) (by have := hbb.out; omega) (by have := hbb.out; simp; omega) ?_); intro v5 w5 O6 g5)
        have BE : Below w1.heap.size w1 w5 := belG (belA2 (belT B2X b3)) g5 (fun y hy => O4.out.ge y hy)
        rw [← hS.out] at O6
        go_roundw
        case rel => exact ⟨j + 1, HLT.out, by go_num, Lib.hid O6, BE⟩
        case measure => have := HLT.out; simp [intOf]; omega
      | false =>
        have hS : Hid (supsJ b i (j + 1) = supsJ b i j) := by
          show _ = _
          show supsJ b i j ++ B.supAt b i j = _
          have hk' := hk
          rw [HLd.out] at hk'
          rw [supAt_no hk', List.append_nil]
        have HDC2 : Hid (Calls Try.prog 107 #[xv] w2 fun e w' => e = .returned (.tuple #[sv Sup.zero, .int .i64 2]) ∧ Below w2.heap.size w2 w') := by
          refine Calls.mono HDC.out ?_
          rintro e w' ⟨rfl, bb⟩
          exact ⟨by rw [hk]; rfl, bb⟩
        unfold sv Sup.zero Geo.zero at HDC2
        dsimp only at HDC2
        clear HDC hk
        go_wp2_with fail
        refine Calls.mono HDC2.out ?_
        rintro r w3 ⟨rfl, b3⟩
        have O4 : Hid (∀ o1, OwnS (w3.alloc o1) w1.heap.size u5 (supsJ b i (j + 1))) := by
          rw [hS.out]
          exact Lib.hid (fun o1 => (O3.out.up b3).up (belA1 (belR _)))
        have BE := belT B2X b3
        go_wp2
        go_roundw
        case rel => exact ⟨j + 1, HLT.out, by go_num, Lib.hid (O4.out _), belA1 BE⟩
        case measure => have := HLT.out; simp [intOf]; omega
    · have hje : j = 2 := by omega
      subst hje
      go_wp2
      go_ret
      have O9 := HO.out.low (base' := w.heap.size) (by omega)
      rw [show supsJ b i 2 = B.sups b i by show ([] ++ B.supAt b i 0) ++ B.supAt b i 1 = _; rw [List.nil_append]; rfl] at O9
      exact ⟨_, rfl, O9, belT b1 BX⟩
end Go.Proofs.Ytenjpldinnbcbaa
/- The walk of slots.Best. -/

namespace Go.Proofs.Ytenjpldinnbcbaa
open Go.RowKit C
set_option linter.unusedVariables false
set_option linter.unusedSimpArgs false
set_option maxRecDepth 100000
set_option maxHeartbeats 600000
theorem OwnS.fr {S : Nat → Prop} {w w' : World} {base : Nat} {v : Value} {T : List Sup} (h : OwnS w base v T) (k : Fr S w w') (hb : ∀ g, v.ownBlock = some g → ¬ S g) : OwnS w' base v T := row_fr h k hb
theorem OwnT.fr {S : Nat → Prop} {w w' : World} {base : Nat} {v : Value} {T : List Bool} (h : OwnT w base v T) (k : Fr S w w') (hb : ∀ g, v.ownBlock = some g → ¬ S g) : OwnT w' base v T := row_fr h k hb
theorem OwnT.nil (w : World) (base : Nat) : OwnT w base (.slice none 0 0) [] := World.ownsRow_nil _ _ _ _
theorem OwnT.low {w : World} {base base' : Nat} {v : Value} {T : List Bool} (h : OwnT w base v T) (hb : base' ≤ base) : OwnT w base' v T := by
  have h0 : w.ownsRow base 4 1 v T.length (T.map boolv) := h
  refine ⟨h0.1, ?_⟩
  rcases h0.2 with ⟨e, hn⟩ | ⟨b, cap, cur, e, hge, r⟩
  · exact .inl ⟨e, hn⟩
  · exact .inr ⟨b, cap, cur, e, Nat.le_trans hb hge, r⟩
theorem wpList_append_bool {P : Program} {w : World} {ops : Array Oper} {rest : List Oper} {o : Oper} {a : Act} {Q : Exit → Act → World → Prop} (hgd : o.guard = none) (s x : Operand) (t : TypeId)
    (ho : o.op = .call { callee := .builtin .append, args := #[s, x], argTypes := #[t, t] })
    (i : TypeInfo) (ht : P.underlying t = some (.slice 4)) (hi : P.info? 4 = some i) (hz : i.zero = some (.bool false)) (hsize : i.size = 1) (hby : i.bytes = 1)
    (base : Nat) (v : Value) (T : List Bool) (hs : a.eval s = v) (hown : OwnT w base v T) (g m c : Nat) (q : Bool) (hx : a.eval x = .slice (some ⟨g, 0, none⟩) m c) (hm : m = 1)
    (hnews : w.cell? ⟨g, 0, none⟩ = some (.bool q))
    (h63 : T.length + 1 ≤ 1048576) (hbase : base ≤ w.heap.size)
    (h : ∀ v' w', OwnT w' base v' (T ++ [q]) → w.grownBy w' v.ownBlock → wpList P ops Q rest (a.put o.dst v') w') : wpList P ops Q (o :: rest) a w :=
  wpList_plain hgd fun _ hK => by
    subst hm
    have hn' : ∀ j u, ([q].map boolv)[j]? = some u → w.cell? ((⟨g, 0, none⟩ : Addr).add j) = some u := by
      intro j u hu
      have hj : j < 1 := by have := (List.getElem?_eq_some_iff.1 hu).1; simpa using this
      have : j = 0 := by omega
      subst this
      rw [Addr.add_mid, Nat.zero_add, hnews]
      simpa [boolv] using hu
    obtain ⟨v', w', hr, h2, h3, _⟩ := run_append_own (P := P) w base t o.type 4 i (.bool false) 1 1 ht hi hz hsize hby rfl (by decide) v T.length (T.map boolv) hown ⟨g, 0, none⟩ 1 c ([q].map boolv) (by simp) hn' (by intro u hu; simp at hu; subst hu; rfl) (by simp only [maxLen]; omega) (by omega) hbase
    unfold Oper.wp execOp
    simp only [ho, resolve, invoke, builtin, Sem.run_bind, Sem.run_pure, Result.andThen_ok, List.map_toArray, List.map_cons, List.map_nil, hs, hx, hr]
    refine hK _ _ (h v' w' ?_ h3)
    show World.ownsRow _ _ _ _ _ _ _
    rw [List.length_append, List.map_append]; exact h2
theorem scl_size (s : Sup) : (scl s).toArray.size = 11 := rfl
theorem scl_ones (s : Sup) : (scl s).toArray.all (·.oneCell') = true := by simp [scl, Value.oneCell']
theorem Box.sup {w : World} {g : Nat} {s : Sup} (h : Box w g (scl s)) : w.cell? ⟨g, 0, none⟩ = some (.int .i64 s.gen) ∧ w.cell? ⟨g, 1, none⟩ = some (.int .i64 s.a.l) ∧ w.cell? ⟨g, 2, none⟩ = some (.int .i64 s.a.d) ∧ w.cell? ⟨g, 3, none⟩ = some (.int .i64 s.a.c) ∧ w.cell? ⟨g, 4, none⟩ = some (.int .i64 s.b.l) ∧ w.cell? ⟨g, 5, none⟩ = some (.int .i64 s.b.d) ∧ w.cell? ⟨g, 6, none⟩ = some (.int .i64 s.b.c) ∧ w.cell? ⟨g, 7, none⟩ = some (.bool s.run) ∧ w.cell? ⟨g, 8, none⟩ = some (.int .i64 s.win) ∧ w.cell? ⟨g, 9, none⟩ = some (.int .i64 s.ep) ∧ w.cell? ⟨g, 10, none⟩ = some (.int .i64 s.out) := by
  have k : ∀ j v, (scl s)[j]? = some v → w.cell? ⟨g, j, none⟩ = some v := fun j v hv => by have := h.range j v hv; rwa [Nat.zero_add] at this
  exact ⟨k 0 _ rfl, k 1 _ rfl, k 2 _ rfl, k 3 _ rfl, k 4 _ rfl, k 5 _ rfl, k 6 _ rfl, k 7 _ rfl, k 8 _ rfl, k 9 _ rfl, k 10 _ rfl⟩
theorem super_sz : (Try.prog.info? 72).map (·.size) = some 11 := by kernel_rfl
theorem OwnS.range {w : World} {base n cap : Nat} {ao : Option Addr} {T : List Sup} (h : OwnS w base (.slice ao n cap) T) {i : Nat} {s : Sup} (hp : T[i]? = some s) :
    ∃ g, ao = some ⟨g, 0, none⟩ ∧ w.rangeAt g (i * 11) (scl s) ∧ base ≤ g := by
  obtain ⟨g, e, hc⟩ := h.cellsAt hp
  subst e
  refine ⟨g, rfl, fun j v hv => ?_, h.ge g rfl⟩
  have hj : j < 11 := by have := (List.getElem?_eq_some_iff.1 hv).1; simpa [scl] using this
  rw [hc j hj]; exact hv
namespace B
theorem newer_take {s : Sup} {T : List Sup} {j : Nat} {p : Sup} (h : T[j]? = some p) : newer s (T.take (j + 1)) = if (newer s (T.take j)).gen < p.gen then p else newer s (T.take j) := by
  unfold newer
  rw [List.take_add_one, h, List.foldl_append]; rfl
theorem near_take {s : Sup} {T : List Sup} {j : Nat} {p : Sup} (h : T[j]? = some p) : nearB s (T.take (j + 1)) = (nearB s (T.take j) || decide (s.gen - 1 ≤ p.gen)) := by
  unfold nearB
  rw [List.take_add_one, h, List.any_append]; simp
theorem sup_gen {b : Bn} {i : Nat} : ∀ s ∈ sups b i, 1 ≤ s.gen ∧ s.gen ≤ 2147483647 := by
  have one : ∀ a, ∀ s ∈ supAt b i a, 1 ≤ s.gen ∧ s.gen ≤ 2147483647 := by
    intro a s hs
    unfold supAt at hs
    by_cases hf : failB b i = true
    · rw [if_pos hf] at hs; cases hs
    · rw [if_neg hf] at hs
      by_cases hk : Sup.is (lookB b i a) = true
      · rw [if_pos hk] at hs
        have : s = Sup.parse (lookB b i a) := by simpa using hs
        rw [this]
        exact ((Sup.ok_iff _).1 ((Sup.is_iff _).1 hk).2.1).1
      · rw [if_neg hk] at hs; cases hs
  intro s hs
  rcases List.mem_append.1 hs with h | h
  · exact one 0 s h
  · exact one 1 s h
theorem newer_gen {s : Sup} {T : List Sup} (h : ∀ p ∈ T, 1 ≤ p.gen ∧ p.gen ≤ 2147483647) (hs : 0 ≤ s.gen ∧ s.gen ≤ 2147483647) : 0 ≤ (newer s T).gen ∧ (newer s T).gen ≤ 2147483647 := by
  unfold newer
  induction T generalizing s with
  | nil => exact hs
  | cons p T ih =>
    rw [List.foldl_cons]
    refine ih (fun q hq => h q (List.mem_cons_of_mem _ hq)) ?_
    have := h p (List.mem_cons_self ..)
    split <;> omega
theorem best_gen (b : Bn) (n : Nat) : 0 ≤ (bestN b n).gen ∧ (bestN b n).gen ≤ 2147483647 := by
  induction n with
  | zero => exact ⟨Int.le_refl _, by show (0 : Int) ≤ _; decide⟩
  | succ n ih => exact newer_gen sup_gen ih
end B
attribute [local irreducible] Go.Calls Byt Own Parts PA BA Bools OwnD OwnS OwnT
theorem best_down (w : World) (base g : Nat) (lv : Value) (hs : List (Nat × Value)) (b : B.Bn) (h : IsBench w base g lv hs b) (hd : b.down = true) :
    Calls Try.prog 38 #[.pointer (some ⟨g, 0, none⟩)] w fun r w' => r = .returned (.tuple #[sv Sup.zero, .slice none 0 0, .int .i64 6]) ∧ Below w.heap.size w w' := by
  have HD := bdown_any (w.alloc (.cells #[.int .i64 0, .int .i64 0, .int .i64 0, .int .i64 0, .int .i64 0, .int .i64 0, .int .i64 0, .bool false, .int .i64 0, .int .i64 0, .int .i64 0] 72)) base g lv hs b (h.up (belA1 (belR _)))
  rw [hd] at HD
  have HD := Lib.hid HD
  clear h hd
  go_enter Try.func38, Try.ntmps38
  go_wp2_with fail
  refine Calls.mono HD.out ?_
  rintro r w2 ⟨rfl, rfl⟩
  go_wp2
  exact bodyPost_ret (v := .tuple #[sv Sup.zero, .slice none 0 0, .int .i64 6]) (by simp [results, Try.results38, go_sem, sv, Sup.zero, Geo.zero]) rfl ⟨rfl, belA1 (belR _)⟩
theorem best_any (w : World) (base g : Nat) (lv : Value) (hs : List (Nat × Value)) (b : B.Bn) (h : IsBench w base g lv hs b) (hL : B.Lv b) (hn : b.ds.length ≤ 8) :
    Calls Try.prog 38 #[.pointer (some ⟨g, 0, none⟩)] w fun r w' => (if (B.bestN b b.ds.length).gen = 0 then r = .returned (.tuple #[sv Sup.zero, .slice none 0 0, .int .i64 3]) else ∃ v, r = .returned (.tuple #[sv (B.bestN b b.ds.length), v, .int .i64 0]) ∧ OwnT w' w.heap.size v ((List.range b.ds.length).map (fun d => B.nearB (B.bestN b b.ds.length) (B.sups b d)))) ∧ Below w.heap.size w w' := by
  have HDN := Lib.hid (fun X (hX : Below w.heap.size w X) => bdown_any X base g lv hs b (h.up hX))
  have HLN := Lib.hid (fun X (hX : Below w.heap.size w X) => blen_any X base g lv hs b (h.up hX))
  rw [hL.down] at HDN
  have HB := Lib.hid h
  have HL := Lib.hid hL
  obtain ⟨N, hN⟩ : ∃ N, N = b.ds.length := ⟨_, rfl⟩
  rw [← hN] at HLN hn ⊢
  have HN := Lib.hid hN
  obtain ⟨S, hS⟩ : ∃ S, S = B.bestN b N := ⟨_, rfl⟩
  have HSG : Hid (0 ≤ S.gen ∧ S.gen ≤ 2147483647) := by rw [hS]; exact B.best_gen b N
  rw [← hS]
  have HSD := Lib.hid hS
  clear h hL hN hS
  obtain ⟨w1, hw1⟩ : ∃ w1, w1 = w.alloc (.cells #[.int .i64 0, .int .i64 0, .int .i64 0, .int .i64 0, .int .i64 0, .int .i64 0, .int .i64 0, .bool false, .int .i64 0, .int .i64 0, .int .i64 0] 72) := ⟨_, rfl⟩
  have hs1 : w1.heap.size = w.heap.size + 1 := by rw [hw1]; simp
  have b1 : Below w.heap.size w w1 := by rw [hw1]; exact belA1 (belR _)
  have X1 : Hid (Box w1 w.heap.size (scl Sup.zero)) := by rw [hw1]; exact Lib.hid (Box.new w (scl Sup.zero) 72)
  have HW1 := Lib.hid hw1
  clear hw1
  go_enter Try.func38, Try.ntmps38
  go_wp2_with fail
  rw [← HW1.out]
  refine Calls.mono (HDN.out w1 b1) ?_
  rintro r w2 ⟨rfl, rfl⟩
  go_wp2_with fail
  refine Calls.mono (HLN.out w1 b1) ?_
  rintro r w2 ⟨rfl, rfl⟩
  go_wp2
  go_loopw [19] (fun iv X => ∃ i : Nat, i ≤ N ∧ iv = .int .i64 i ∧ Hid (Box X w.heap.size (scl (B.bestN b i))) ∧ Below w.heap.size w X ∧ w.heap.size < X.heap.size) (fun iv _ => N - (intOf iv).toNat)
  case atStart => exact ⟨0, Nat.zero_le _, rfl, X1, b1, by omega⟩
  case round =>
    obtain ⟨i, hiN, rfl, HX, BW, hsX⟩ := hrel
    by_cases hlt : i < N
    · have hi1 : IntKind.i64.wrap ((i : Int) + 1) = ((i + 1 : Nat) : Int) := by rw [IntKind.wrap_i64]; omega
      have hiI : (i : Int) < (N : Int) := by omega
      have hi0 : (0 : Int) ≤ (i : Int) := by omega
      have HLT := Lib.hid hlt
      have HSL := Lib.hid (slots_any wr base g lv hs b i (HB.out.up BW) HL.out (by rw [← HN.out]; exact hlt) (by rw [← HN.out]; exact hn))
      clear hlt
      go_wp2_with fail
      refine Calls.mono HSL.out ?_
      rintro r w2 ⟨tv, rfl, O2, b2⟩
      obtain ⟨T, hT⟩ : ∃ T, T = B.sups b i := ⟨_, rfl⟩
      rw [← hT] at O2
      obtain ⟨M, hM⟩ : ∃ M, M = T.length := ⟨_, rfl⟩
      have hM2 : M ≤ 2 := by rw [hM, hT]; have h0 := supsJ_len b i 2; rw [show supsJ b i 2 = B.sups b i by show ([] ++ B.supAt b i 0) ++ B.supAt b i 1 = _; rw [List.nil_append]; rfl] at h0; exact h0
      obtain ⟨ao, cap, rfl, hc5, hc6⟩ := O2.shape
      rw [← hM]
      rw [← hM] at O2 hc5
      have O2 := Lib.hid O2
      have X2 := Lib.hid (HX.out.fr (Fr.of_below (S := fun _ => False) b2) id)
      have HT := Lib.hid hT
      have HM := Lib.hid hM
      have hs2 := b2.size
      have BW2 := belT BW b2
      clear hT hM b2 HX BW
      go_wp2
      go_loopw [26] (fun jv Y => ∃ j : Nat, j ≤ M ∧ jv = .int .i64 j ∧ Hid (Fr (fun y => y = w.heap.size) w2 Y ∧ Box Y w.heap.size (scl (B.newer (B.bestN b i) (T.take j))))) (fun jv _ => M - (intOf jv).toNat)
      case atStart => exact ⟨0, Nat.zero_le _, rfl, Lib.hid ⟨Fr.refl _ _, X2.out⟩⟩
      case round =>
        obtain ⟨j, hjM, rfl, HJ⟩ := hrel
        by_cases hlt2 : j < M
        · have hj1 : IntKind.i64.wrap ((j : Int) + 1) = ((j + 1 : Nat) : Int) := by rw [IntKind.wrap_i64]; omega
          have hjI : (j : Int) < (M : Int) := by omega
          have hj0 : (0 : Int) ≤ (j : Int) := by omega
          have HLT2 := Lib.hid hlt2
          obtain ⟨p, hp⟩ : ∃ p, T[j]? = some p := ⟨T[j]'(by rw [← HM.out]; exact hlt2), List.getElem?_eq_getElem _⟩
          have HP := Lib.hid hp
          obtain ⟨gt, hao, hrg, hgt⟩ := (O2.out.fr HJ.out.1 (fun y hy e => by have := O2.out.ge y hy; omega)).range hp
          subst hao
          have HRG : Hid (wr.rangeAt gt (j * 11) [.int .i64 p.gen, .int .i64 p.a.l, .int .i64 p.a.d, .int .i64 p.a.c, .int .i64 p.b.l, .int .i64 p.b.d, .int .i64 p.b.c, .bool p.run, .int .i64 p.win, .int .i64 p.ep, .int .i64 p.out]) := Lib.hid hrg
          obtain ⟨S', hS⟩ : ∃ S', S' = B.newer (B.bestN b i) (T.take j) := ⟨_, rfl⟩
          have HJ2 := HJ
          rw [← hS] at HJ2
          have HSD' := Lib.hid hS
          have hszY : w2.heap.size ≤ wr.heap.size := HJ.out.1.size
          clear hlt2 hp hrg hS HJ
          obtain ⟨FJ, BJ⟩ := HJ2.out
          have hcS : wr.cell? ⟨w.heap.size, 0, none⟩ = some (.int .i64 S'.gen) := by have := BJ.range 0 _ rfl; simpa using this
          have hzz : w.heap.size < wr.heap.size := by omega
          have hzy : w.heap.size ≠ wr.heap.size := by omega
          clear FJ BJ
          go_upto_region 9 with (refine wpList_load_mid rfl 72 _ rfl gt (j * 11) rfl [.int .i64 p.gen, .int .i64 p.a.l, .int .i64 p.a.d, .int .i64 p.a.c, .int .i64 p.b.l, .int .i64 p.b.d, .int .i64 p.b.c, .bool p.run, .int .i64 p.win, .int .i64 p.ep, .int .i64 p.out] _ HRG.out Try.underlying72 rfl super_sz ?_)
          obtain ⟨X3, hX3⟩ : ∃ X3, X3 = wr.alloc (.cells #[.int .i64 p.gen, .int .i64 p.a.l, .int .i64 p.a.d, .int .i64 p.a.c, .int .i64 p.b.l, .int .i64 p.b.d, .int .i64 p.b.c, .bool p.run, .int .i64 p.win, .int .i64 p.ep, .int .i64 p.out] 72) := ⟨_, rfl⟩
          rw [← hX3]
          have HNW : Hid (B.newer (B.bestN b i) (T.take (j + 1)) = if S'.gen < p.gen then p else S') := by
            show _ = _
            rw [HSD'.out]
            exact B.newer_take HP.out
          have B7 : Box X3 wr.heap.size [.int .i64 p.gen, .int .i64 p.a.l, .int .i64 p.a.d, .int .i64 p.a.c, .int .i64 p.b.l, .int .i64 p.b.d, .int .i64 p.b.c, .bool p.run, .int .i64 p.win, .int .i64 p.ep, .int .i64 p.out] := by rw [hX3]; exact Box.new wr [.int .i64 p.gen, .int .i64 p.a.l, .int .i64 p.a.d, .int .i64 p.a.c, .int .i64 p.b.l, .int .i64 p.b.d, .int .i64 p.b.c, .bool p.run, .int .i64 p.win, .int .i64 p.ep, .int .i64 p.out] 72
          have HR7 : Hid (X3.rangeAt wr.heap.size 0 [.int .i64 p.gen, .int .i64 p.a.l, .int .i64 p.a.d, .int .i64 p.a.c, .int .i64 p.b.l, .int .i64 p.b.d, .int .i64 p.b.c, .bool p.run, .int .i64 p.win, .int .i64 p.ep, .int .i64 p.out]) := Lib.hid B7.range
          have f7 : X3.cell? ⟨wr.heap.size, 0, none⟩ = some (.int .i64 p.gen) := by have := B7.range 0 _ rfl; simpa using this
          have BS : Hid (Box X3 w.heap.size (scl S')) := by rw [hX3]; exact HJ2.out.2.fr (Fr.alloc (S := fun _ => False) _ _) id
          have fS : X3.cell? ⟨w.heap.size, 0, none⟩ = some (.int .i64 S'.gen) := by have := BS.out.range 0 _ rfl; simpa using this
          have FX : Hid (Fr (fun y => y = w.heap.size) w2 X3) := by rw [hX3]; exact Lib.hid (HJ2.out.1.trans (Fr.alloc _ _))
          clear hX3 HJ2 HRG HP HSD' hcS B7
          by_cases hgt : S'.gen < p.gen
          · have g1 : decide (S'.gen < p.gen) = true := decide_eq_true hgt
            have HNX : Hid (Fr (fun y => y = w.heap.size) w2 (X3.setCells w.heap.size 0 (scl p)) ∧ Box (X3.setCells w.heap.size 0 (scl p)) w.heap.size (scl (B.newer (B.bestN b i) (T.take (j + 1))))) := by
              refine ⟨FX.out.trans (Fr.cells _ _ _ _), ?_⟩
              rw [HNW.out, if_pos hgt]
              exact BS.out.store (cs' := scl p) rfl
            have HTH : Hid (X3.there w.heap.size 0 11) := Lib.hid BS.out.there
            go_upto_region 11 with (first
              | (refine wpList_load_mid rfl 72 _ rfl wr.heap.size 0 rfl [.int .i64 p.gen, .int .i64 p.a.l, .int .i64 p.a.d, .int .i64 p.a.c, .int .i64 p.b.l, .int .i64 p.b.d, .int .i64 p.b.c, .bool p.run, .int .i64 p.win, .int .i64 p.ep, .int .i64 p.out] _ HR7.out Try.underlying72 rfl super_sz ?_)
              | (refine wpList_store_mid rfl 72 (.tmp 2) (.tmp 35) rfl w.heap.size 0 (scl p).toArray rfl rfl (show World.there _ _ 0 11 from HTH.out) (show _ = some 11 from super_sz) (scl_ones p) ?_))
            go_wp2
            go_roundw
            case rel => exact ⟨j + 1, HLT2.out, by go_num, HNX⟩
            case measure => have := HLT2.out; simp [intOf]; omega
          · have g1 : decide (S'.gen < p.gen) = false := decide_eq_false hgt
            have HNX : Hid (Fr (fun y => y = w.heap.size) w2 X3 ∧ Box X3 w.heap.size (scl (B.newer (B.bestN b i) (T.take (j + 1))))) := by
              refine ⟨FX.out, ?_⟩
              rw [HNW.out, if_neg hgt]
              exact BS.out
            go_wp2
            go_roundw
            case rel => exact ⟨j + 1, HLT2.out, by go_num, HNX⟩
            case measure => have := HLT2.out; simp [intOf]; omega
        · have hje : j = M := by omega
          subst hje
          obtain ⟨FJ, BJ⟩ := HJ.out
          rw [HM.out, List.take_length, HT.out] at BJ
          have BJ : Hid (Box wr w.heap.size (scl (B.bestN b (i + 1)))) := Lib.hid BJ
          have BE : Below w.heap.size w wr := Fr.below BW2 FJ (by omega) (fun y e => by show w.heap.size ≤ y; rw [e]; exact Nat.le_refl _)
          have hse : w.heap.size < wr.heap.size := by have := FJ.size; omega
          clear FJ HJ
          go_wp2
          go_roundw
          case rel => exact ⟨i + 1, HLT.out, by go_num, BJ, BE, hse⟩
          case measure => have := HLT.out; simp [intOf]; omega
    · have hie : i = N := by omega
      subst hie
      rw [← HSD.out] at HX
      have hcS : wr.cell? ⟨w.heap.size, 0, none⟩ = some (.int .i64 S.gen) := HX.out.sup.1
      have HTH : Hid (wr.there w.heap.size 0 11) := Lib.hid HX.out.there
      by_cases hz : S.gen = 0
      · have hz1 : (S.gen == 0) = true := by simp [hz]
        have BZ := HX.out.store (cs' := scl Sup.zero) rfl
        have BE : Below w.heap.size w (wr.setCells w.heap.size 0 (scl Sup.zero)) := Fr.below BW (Fr.cells _ _ _ _) (by omega) (fun y e => by show w.heap.size ≤ y; rw [e]; exact Nat.le_refl _)
        obtain ⟨X9, hX9⟩ : ∃ X9, X9 = wr.setCells w.heap.size 0 (scl Sup.zero) := ⟨_, rfl⟩
        rw [← hX9] at BZ BE
        have HX9 := Lib.hid hX9
        obtain ⟨f0, f1, f2, f3, f4, f5, f6, f7, f8, f9, f10⟩ := BZ.sup
        have hse : w.heap.size < wr.heap.size := hsX
        have HZ := Lib.hid hz
        clear hX9 hz BZ
        go_upto_region 14 with (fail)
        go_wp2_with (first
          | (refine wpList_store_mid rfl 72 (.tmp 2) (.tmp 41) rfl w.heap.size 0 (scl Sup.zero).toArray rfl rfl (show World.there _ _ 0 11 from HTH.out) (show _ = some 11 from super_sz) (scl_ones Sup.zero) ?_; rw [show (scl Sup.zero).toArray.toList = scl Sup.zero from rfl, ← HX9.out]))
        refine bodyPost_ret (v := .tuple #[sv Sup.zero, .slice none 0 0, .int .i64 3]) (by simp [results, Try.results38, go_sem, sv, f0, f1, f2, f3, f4, f5, f6, f7, f8, f9, f10]) rfl ⟨?_, BE⟩
        first | rfl | (rw [if_pos HZ.out]) | (rw [if_pos HZ.out]; rfl)
      · have HZ := Lib.hid hz
        have hz1 : (S.gen == 0) = false := by simp [hz]
        clear hz
        obtain ⟨i0, hi0', hz0', hz1', hz2'⟩ := info_parts bool_info
        have hgw : IntKind.i64.wrap (S.gen - 1) = S.gen - 1 := by rw [IntKind.wrap_i64]; have := HSG.out; omega
        have HX0 := Lib.hid HX.out
        have BW0 := Lib.hid BW
        obtain ⟨wa, rfl⟩ : ∃ wa, wa = wr := ⟨_, rfl⟩
        have hn0 := hn
        go_wp2_with fail
        refine Calls.mono (HLN.out wa BW) ?_
        rintro r w2 ⟨rfl, rfl⟩
        clear hcS HTH
        go_wp2
        go_loopw [3, 44] (fun ov dv X => ∃ d : Nat, d ≤ i ∧ dv = .int .i64 d ∧ Hid (OwnT X wa.heap.size ov ((List.range d).map (fun d => B.nearB S (B.sups b d)))) ∧ Below wa.heap.size wa X) (fun _ dv _ => i - (intOf dv).toNat)
        case atStart => exact ⟨0, Nat.zero_le _, rfl, Lib.hid (OwnT.nil _ _), belR _⟩
        case round =>
          obtain ⟨d, hdN, rfl, HO, BX⟩ := hrel
          have BWX := belT BW0.out BX
          by_cases hlt : d < i
          · have hd1 : IntKind.i64.wrap ((d : Int) + 1) = ((d + 1 : Nat) : Int) := by rw [IntKind.wrap_i64]; omega
            have hdI : (d : Int) < (i : Int) := by omega
            have hd0 : (0 : Int) ≤ (d : Int) := by omega
            have HLT := Lib.hid hlt
            have HSL := Lib.hid (slots_any wr base g lv hs b d (HB.out.up BWX) HL.out (by rw [← HN.out]; exact hlt) (by rw [← HN.out]; exact hn0))
            clear hlt
            go_wp2_with fail
            refine Calls.mono HSL.out ?_
            rintro r w2 ⟨tv, rfl, O2, b2⟩
            obtain ⟨T, hT⟩ : ∃ T, T = B.sups b d := ⟨_, rfl⟩
            rw [← hT] at O2
            obtain ⟨M, hM⟩ : ∃ M, M = T.length := ⟨_, rfl⟩
            have hM2 : M ≤ 2 := by rw [hM, hT]; have h0 := supsJ_len b d 2; rw [show supsJ b d 2 = B.sups b d by show ([] ++ B.supAt b d 0) ++ B.supAt b d 1 = _; rw [List.nil_append]; rfl] at h0; exact h0
            obtain ⟨ao, cap, rfl, hc5, hc6⟩ := O2.shape
            rw [← hM]
            rw [← hM] at O2 hc5
            have O2 := Lib.hid O2
            have BX2 := belT BX b2
            have HO2 := Lib.hid (HO.out.up b2)
            have HT := Lib.hid hT
            have HM := Lib.hid hM
            clear hT hM b2 HO
            go_wp2
            go_loopw [9, 51] (fun nv jv Y => ∃ j : Nat, j ≤ M ∧ jv = .int .i64 j ∧ nv = .bool (B.nearB S (T.take j)) ∧ Below w2.heap.size w2 Y) (fun _ jv _ => M - (intOf jv).toNat)
            case atStart => exact ⟨0, Nat.zero_le _, rfl, rfl, belR _⟩
            case round =>
              obtain ⟨j, hjM, rfl, rfl, BY⟩ := hrel
              by_cases hlt2 : j < M
              · have hj1 : IntKind.i64.wrap ((j : Int) + 1) = ((j + 1 : Nat) : Int) := by rw [IntKind.wrap_i64]; omega
                have hjI : (j : Int) < (M : Int) := by omega
                have hj0 : (0 : Int) ≤ (j : Int) := by omega
                have HLT2 := Lib.hid hlt2
                obtain ⟨p, hp⟩ : ∃ p, T[j]? = some p := ⟨T[j]'(by rw [← HM.out]; exact hlt2), List.getElem?_eq_getElem _⟩
                obtain ⟨gt, hao, hrg, hgt⟩ := (O2.out.up BY).range hp
                subst hao
                have HRG : Hid (wr.rangeAt gt (j * 11) [.int .i64 p.gen, .int .i64 p.a.l, .int .i64 p.a.d, .int .i64 p.a.c, .int .i64 p.b.l, .int .i64 p.b.d, .int .i64 p.b.c, .bool p.run, .int .i64 p.win, .int .i64 p.ep, .int .i64 p.out]) := Lib.hid hrg
                have HNW := Lib.hid (B.near_take (s := S) hp)
                obtain ⟨nb, hnb⟩ : ∃ nb, nb = B.nearB S (T.take j) := ⟨_, rfl⟩
                rw [← hnb] at HNW ⊢
                have BXY := belT BX2 BY
                have hzz : w.heap.size < wr.heap.size := by have := BXY.size; omega
                have hzy : w.heap.size ≠ wr.heap.size := by omega
                have hcS : wr.cell? ⟨w.heap.size, 0, none⟩ = some (.int .i64 S.gen) := (HX0.out.fr (Fr.of_below (S := fun _ => False) BXY) id).sup.1
                have BYA : Hid (∀ o, Below w2.heap.size w2 (wr.alloc o)) := Lib.hid (fun o => belA1 BY)
                clear hlt2 hp hrg hnb
                go_upto_region 22 with (refine wpList_load_mid rfl 72 _ rfl gt (j * 11) rfl [.int .i64 p.gen, .int .i64 p.a.l, .int .i64 p.a.d, .int .i64 p.a.c, .int .i64 p.b.l, .int .i64 p.b.d, .int .i64 p.b.c, .bool p.run, .int .i64 p.win, .int .i64 p.ep, .int .i64 p.out] _ HRG.out Try.underlying72 rfl super_sz ?_)
                cases nb with
                | true =>
                  go_wp2
                  go_roundw
                  case rel => exact ⟨j + 1, HLT2.out, by go_num, by rw [HNW.out]; rfl, BYA.out _⟩
                  case measure => have := HLT2.out; simp [intOf]; omega
                | false =>
                  go_wp2
                  go_roundw
                  case rel => exact ⟨j + 1, HLT2.out, by go_num, by rw [HNW.out]; rfl, BYA.out _⟩
                  case measure => have := HLT2.out; simp [intOf]; omega
              · have hje : j = M := by omega
                subst hje
                rw [HM.out, List.take_length]
                have HO3 := Lib.hid (HO2.out.up BY)
                have BXY := belT BX2 BY
                obtain ⟨nb, hnb⟩ : ∃ nb, nb = B.nearB S T := ⟨_, rfl⟩
                rw [← hnb]
                have HNX : Hid ((List.range (d + 1)).map (fun d => B.nearB S (B.sups b d)) = (List.range d).map (fun d => B.nearB S (B.sups b d)) ++ [nb]) := by
                  show _ = _
                  rw [List.range_succ, List.map_append, hnb, HT.out]; rfl
                have HO4 : Hid (∀ o, OwnT (wr.alloc o) wa.heap.size u3 ((List.range d).map (fun d => B.nearB S (B.sups b d)))) := Lib.hid (fun o => HO3.out.up (belA1 (belR _)))
                have hsz : wa.heap.size ≤ wr.heap.size := BXY.size
                clear hnb
                go_wp2_with (at_builtin; go_loud (refine wpList_append_bool rfl _ _ 28 rfl i0 Try.underlying28 hi0' hz0' hz1' hz2' wa.heap.size _ ((List.range d).map (fun d => B.nearB S (B.sups b d))) rfl (HO4.out _) wr.heap.size 1 1 nb rfl rfl (by simp) (by simp; omega) (by simp; omega) ?_); intro v5 w5 O6 g5)
                have BE : Below wa.heap.size wa w5 := belG (belA1 BXY) g5 (fun y hy => HO3.out.ge y hy)
                rw [← HNX.out] at O6
                go_roundw
                case rel => exact ⟨d + 1, HLT.out, by go_num, Lib.hid O6, BE⟩
                case measure => have := HLT.out; simp [intOf]; omega
          · have hde : d = i := by omega
            subst hde
            have XR := HX0.out.fr (Fr.of_below (S := fun _ => False) BX) id
            have HRG : Hid (wr.rangeAt w.heap.size 0 [.int .i64 S.gen, .int .i64 S.a.l, .int .i64 S.a.d, .int .i64 S.a.c, .int .i64 S.b.l, .int .i64 S.b.d, .int .i64 S.b.c, .bool S.run, .int .i64 S.win, .int .i64 S.ep, .int .i64 S.out]) := Lib.hid XR.range
            have HTH : Hid (wr.there w.heap.size 0 11) := Lib.hid XR.there
            have BZ := XR.store (cs' := scl S) rfl
            have hsz := BX.size
            have F9 : Fr (fun y => y = w.heap.size) wr (wr.setCells w.heap.size 0 (scl S)) := Fr.cells _ _ _ _
            have BE : Below w.heap.size w (wr.setCells w.heap.size 0 (scl S)) := Fr.below BWX F9 (by omega) (fun y e => by show w.heap.size ≤ y; rw [e]; exact Nat.le_refl _)
            have OE := ((HO.out.fr F9 (fun y hy e => by have := HO.out.ge y hy; omega)).low (base' := w.heap.size) (by omega))
            obtain ⟨X9, hX9⟩ : ∃ X9, X9 = wr.setCells w.heap.size 0 (scl S) := ⟨_, rfl⟩
            rw [← hX9] at BZ BE OE
            have HX9 := Lib.hid hX9
            have OE := Lib.hid OE
            obtain ⟨f0, f1, f2, f3, f4, f5, f6, f7, f8, f9, f10⟩ := BZ.sup
            clear hX9 BZ XR F9
            go_wp2_with (first
              | (refine wpList_load_mid rfl 72 (.tmp 2) rfl w.heap.size 0 rfl [.int .i64 S.gen, .int .i64 S.a.l, .int .i64 S.a.d, .int .i64 S.a.c, .int .i64 S.b.l, .int .i64 S.b.d, .int .i64 S.b.c, .bool S.run, .int .i64 S.win, .int .i64 S.ep, .int .i64 S.out] _ HRG.out Try.underlying72 rfl super_sz ?_)
              | (refine wpList_store_mid rfl 72 (.tmp 2) (.tmp 70) rfl w.heap.size 0 (scl S).toArray rfl rfl (show World.there _ _ 0 11 from HTH.out) (show _ = some 11 from super_sz) (scl_ones S) ?_; rw [show (scl S).toArray.toList = scl S from rfl, ← HX9.out]))
            refine bodyPost_ret (v := .tuple #[sv S, u3, .int .i64 0]) (by simp [results, Try.results38, go_sem, sv, f0, f1, f2, f3, f4, f5, f6, f7, f8, f9, f10]) rfl ⟨?_, BE⟩
            first | exact ⟨_, rfl, OE.out⟩ | (rw [if_neg HZ.out]; exact ⟨_, rfl, OE.out⟩)
end Go.Proofs.Ytenjpldinnbcbaa
