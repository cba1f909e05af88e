/- The walk of disk's put. -/
import Derived.Test.YtenjpldinnbcbaaDiskB
namespace Go.Proofs.Ytenjpldinnbcbaa
open Go.RowKit
set_option linter.unusedVariables false
set_option linter.unusedSimpArgs false
set_option maxRecDepth 100000
set_option maxHeartbeats 1000000

/-- copy of as many bytes as there are into the middle of a block -/
theorem wpList_copy_mid {P : Program} {w : World} {ops : Array Oper} {rest : List Oper} {o : Oper} {a : Act} {Q : Exit → Act → World → Prop} (hgd : o.guard = none) (d s : Operand) (dT sT : TypeId)
    (ho : o.op = .call { callee := .builtin .copy, args := #[d, s], argTypes := #[dT, sT] }) (hu : P.underlying dT = some (.slice 5)) (hsz : (P.info? 5).map (·.size) = some 1)
    (b off n cap : Nat) (sv : Value) (hd : a.eval d = .slice (some ⟨b, off, none⟩) n cap) (hs : a.eval s = sv) (l : List Nat) (hsrc : Byt w sv l) (hl : l.length = n) (h0 : 0 < n) (ht : w.there b off n)
    (h : wpList P ops Q rest (a.put o.dst (goInt n)) (w.setCells b off (l.map u8v))) : wpList P ops Q (o :: rest) a w := by
  obtain ⟨ao, cap', rfl, h1, h2, h3, h4, hA⟩ := hsrc
  rcases hA with hA | ⟨b', off', rfl, hlt, hc⟩
  · have : l = [] := by simpa using hA
    subst this
    simp at hl
    omega
  · refine wpList_plain hgd fun K hK => ?_
    have hml : (l.map u8v).length = n := by simp [hl]
    have hrun := run_copy_cells (P := P) w dT sT o.type 5 b off n cap ⟨b', off', none⟩ l.length cap' (l.map u8v) hu hsz (by rw [hml, hl]; exact (Nat.min_self n).symm)
      (fun j v hv => by rw [Addr.add_mid, hc j (List.getElem?_eq_some_iff.1 hv).1]; exact hv) (fun j hj => (ht j (by omega)).1) (fun j hj => (ht j (by omega)).2) (u8v_one _)
    rw [hml] at hrun
    unfold Oper.wp
    simp [execOp, ho, resolve, invoke, builtin, hd, hs, hrun, Result.andThen]
    exact hK _ _ h
theorem built_no : Try.prog.built 141 [] = some (wcells (0, List.replicate 32 0)).toArray := by kernel_rfl
theorem built_at (a : Int) : Try.prog.built 141 [(0, .int .i64 a)] = some ((Value.int .i64 a :: (List.replicate 32 (u8v 0))).toArray) := by kernel_rfl
def putI (d : D.Dk) (at' : Int) (x : List Nat) : Int := if D.may d at' ≠ 0 then D.may d at' else if x.length ≠ 32 then 1 else 0
theorem ret_cell2 {P : Program} {fn : Func} {R : Ending → World → Prop} {a : Act} {w : World} {p u : Tmp} {ty : TypeId} (hf : fn.results = #[.cell p ty, .tmp u]) (b : Nat) (cs : List Value) (d : TypeDesc) (m : Value)
    (hp : a.tmps.getD p undef = .pointer (some ⟨b, 0, none⟩)) (hm : a.tmps.getD u undef = m) (hc : w.rangeAt b 0 cs) (hu : P.underlying ty = some d) (hd : d.isRow = true) (hi : (P.info? ty).map (·.size) = some cs.length)
    (hdf : a.defers = []) (hR : R (.returned (.tuple #[.agg cs.toArray, m])) w) : bodyPost P fn R .ret a w :=
  bodyPost_ret (v := .tuple #[.agg cs.toArray, m]) (by
    rw [results_cell_tmp hf, hp, hm]
    simp [asAddr, Result.andThen, run_loadVar_mid w b 0 ty cs d hc hu hd hi]) hdf hR
theorem put_no (w : World) (base g : Nat) (pv : Value) (d : D.Dk) (at' : Int) (bv : Value) (x : List Nat) (h : IsDisk w base g pv d) (hx : Byt w bv x) (hn : putI d at' x ≠ 0) :
    Calls Try.prog 109 #[.pointer (some ⟨g, 0, none⟩), .int .i64 at', bv] w fun e w' => ∃ cs : List Value, e = .returned (.tuple #[.agg cs.toArray, .int .i64 (putI d at' x)]) ∧ cs.length = 33 ∧ (∀ u ∈ cs, u.oneCell' = true) ∧ Below w.heap.size w w' := by
  obtain ⟨m, hmm⟩ : ∃ m, m = D.may d at' := ⟨_, rfl⟩
  have hc := may_any (w.alloc (.cells (wcells (0, List.replicate 32 0)).toArray 141)) base g pv d at' (h.up (belA1 (belR w)))
  obtain ⟨hz82, hi82⟩ := zero_of_info write_info
  have hbd := fun w => run_build (P := Try.prog) w 141 #[] _ built_no
  obtain ⟨C, hC⟩ : ∃ C, C = wcells (0, List.replicate 32 0) := ⟨_, rfl⟩
  have HCl : Hid (C.length = 33 ∧ ∀ u ∈ C, u.oneCell' = true) := by
    rw [hC]; exact ⟨wcells_len (by simp), wcells_one _⟩
  have HCs : Hid (C.toArray.size = 33) := by show C.toArray.size = 33; rw [List.size_toArray]; exact HCl.out.1
  have HI : Hid ((Try.prog.info? 141).map (·.size) = some 33) := hi82
  rw [← hC] at hz82 hbd hc
  rw [← hmm] at hc
  unfold putI at hn ⊢
  rw [← hmm] at hn ⊢
  have HC := Lib.hid hc
  have HX := Lib.hid hx
  obtain ⟨ao, cap, rfl, _, _⟩ := hx.shape
  clear hmm hc hi82 hx hC h
  by_cases hm : m ≠ 0
  · have hb : (m != 0) = true := by rw [bne_iff_ne]; exact hm
    rw [if_pos hm]
    clear hm hn
    go_enter Try.func109, Try.ntmps109
    go_wp2_with fail
    refine Calls.mono HC.out ?_
    rintro e w1 ⟨rfl, rfl⟩
    go_wp2_with (first
      | (refine wpList_store_new rfl 141 _ _ rfl w.heap.size w rfl C.toArray C.toArray rfl rfl rfl (by rw [HCs.out]; exact HI.out) rfl (all_oneCell_toArray HCl.out.2) ?_)
      | fail)
    (try simp only [Exit.inBlock, Exit.then])
    refine ret_cell2 rfl w.heap.size C _ _ rfl rfl (Box.new w C _).range Try.underlying141 rfl (by rw [HCl.out.1]; exact HI.out) rfl ?_
    exact ⟨C, rfl, HCl.out.1, HCl.out.2, belA1 (belR w)⟩
  · have hm0 : m = 0 := Classical.byContradiction hm
    subst hm0
    rw [if_neg (by decide)] at hn ⊢
    have hlen : x.length ≠ 32 := fun e => hn (by rw [if_neg (by simp [e])])
    rw [if_pos hlen]
    have hb : ((x.length : Int) != 32) = true := by rw [bne_iff_ne]; omega
    clear hm hn hlen
    go_enter Try.func109, Try.ntmps109
    go_wp2_with fail
    refine Calls.mono HC.out ?_
    rintro e w1 ⟨rfl, rfl⟩
    go_wp2_with (first
      | (refine wpList_store_new rfl 141 _ _ rfl w.heap.size w rfl C.toArray C.toArray rfl rfl rfl (by rw [HCs.out]; exact HI.out) rfl (all_oneCell_toArray HCl.out.2) ?_)
      | fail)
    (try simp only [Exit.inBlock, Exit.then])
    refine ret_cell2 rfl w.heap.size C _ _ rfl rfl (Box.new w C _).range Try.underlying141 rfl (by rw [HCl.out.1]; exact HI.out) rfl ?_
    exact ⟨C, rfl, HCl.out.1, HCl.out.2, belA1 (belR w)⟩
theorem put_yes (w : World) (base g : Nat) (pv : Value) (d : D.Dk) (a : Nat) (bv : Value) (x : List Nat) (h : IsDisk w base g pv d) (hx : Byt w bv x) (hf : d.f = false) (ha : a < 52) (hl : x.length = 32) :
    Calls Try.prog 109 #[.pointer (some ⟨g, 0, none⟩), .int .i64 a, bv] w fun e w' => e = .returned (.tuple #[.agg (wcells (a, x)).toArray, .int .i64 0]) ∧ Below w.heap.size w w' := by
  have hc := may_any (w.alloc (.cells (wcells (0, List.replicate 32 0)).toArray 141)) base g pv d a (h.up (belA1 (belR w)))
  have hm : D.may d a = 0 := by
    unfold D.may
    rw [hf, if_neg (by decide), if_neg (by omega)]
  rw [hm] at hc
  obtain ⟨hz82, hi82⟩ := zero_of_info write_info
  have hy := (zero_of_info sec_info).2
  obtain ⟨C, hC⟩ : ∃ C, C = wcells (0, List.replicate 32 0) := ⟨_, rfl⟩
  obtain ⟨E, hE⟩ : ∃ E, E = wcells (a, List.replicate 32 0) := ⟨_, rfl⟩
  have HCl : Hid (C.length = 33 ∧ ∀ u ∈ C, u.oneCell' = true) := by
    rw [hC]; exact ⟨wcells_len (by simp), wcells_one _⟩
  have HEl : Hid (E.length = 33 ∧ ∀ u ∈ E, u.oneCell' = true) := by
    rw [hE]; exact ⟨wcells_len (by simp), wcells_one _⟩
  have HCs : Hid (C.toArray.size = 33) := by show C.toArray.size = 33; rw [List.size_toArray]; exact HCl.out.1
  have HEs : Hid (E.toArray.size = 33) := by show E.toArray.size = 33; rw [List.size_toArray]; exact HEl.out.1
  have HI : Hid ((Try.prog.info? 141).map (·.size) = some 33) := hi82
  have hbe : C.set 0 (Value.int .i64 (a : Int)) = E := by rw [hE, hC]; rfl
  rw [← hC] at hz82 hc
  have HU8 := Lib.hid (show (Try.prog.info? 5).map (·.size) = some 1 by have := uint8_info; cases hq : Try.prog.info? 5 with | none => simp [hq] at this | some i => simp [hq] at this; simp [this])
  have HC := Lib.hid hc
  have HX := Lib.hid hx
  have HB1 : Hid (Box (w.alloc (.cells C.toArray 141)) w.heap.size C) := Box.new w C _
  have HB2 : Hid (Box ((w.alloc (.cells C.toArray 141)).alloc (.cells E.toArray 141)) (w.heap.size + 1) E) := by
    have := Box.new (w.alloc (.cells C.toArray 141)) E 141
    rwa [show (w.alloc (.cells C.toArray 141)).heap.size = w.heap.size + 1 by simp] at this
  have HT : Hid (((w.alloc (.cells C.toArray 141)).alloc (.cells E.toArray 141)).there (w.heap.size + 1) 1 32) := fun j hj => by
    have := HB2.out.there (1 + j) (by rw [HEl.out.1]; omega)
    rwa [Nat.zero_add] at this
  have hkey : ∀ W : World, W.rangeAt (w.heap.size + 1) 0 E → W.there (w.heap.size + 1) 1 32 → (W.setCells (w.heap.size + 1) 1 (x.map u8v)).rangeAt (w.heap.size + 1) 0 (wcells (a, x)) := by
    intro W h1 h2
    rw [hE] at h1
    have h3 := range_upd (A := [Value.int .i64 (a : Int)]) (B := List.replicate 32 (u8v 0)) (B' := x.map u8v) (C := []) (by rw [List.append_nil]; exact h1) (by simp [hl]) (by rw [List.length_map, hl]; exact h2)
    rw [List.append_nil] at h3
    exact h3
  have HF : Hid (Box ((((w.alloc (.cells C.toArray 141)).alloc (.cells E.toArray 141)).setCells (w.heap.size + 1) 1 (x.map u8v))) (w.heap.size + 1) (wcells (a, x))) := by
    refine ⟨?_, ?_⟩
    · exact hkey _ HB2.out.range HT.out
    · rw [wcells_len hl, ← HEl.out.1]
      exact World.there_setCells HB2.out.there _ _ _
  have HB3 : Hid (Box ((((w.alloc (.cells C.toArray 141)).alloc (.cells E.toArray 141)).setCells (w.heap.size + 1) 1 (x.map u8v))) w.heap.size C) :=
    (HB1.out.fr (Fr.alloc (S := fun _ => False) _ _) id).fr (Fr.cells _ _ _ _) (by omega)
  have HWL : Hid ((wcells (a, x)).length = 33) := wcells_len hl
  have HWS : Hid ((wcells (a, x)).toArray.size = 33) := by show (wcells (a, x)).toArray.size = 33; rw [List.size_toArray]; exact HWL.out
  have HT3 : Hid ((((w.alloc (.cells C.toArray 141)).alloc (.cells E.toArray 141)).setCells (w.heap.size + 1) 1 (x.map u8v)).there w.heap.size 0 33) := by
    have := HB3.out.there
    rw [HCl.out.1] at this
    exact this
  have hb : ((x.length : Int) != 32) = false := by rw [hl]; rfl
  have HL := Lib.hid hl
  obtain ⟨ao, cap, rfl, _, _⟩ := hx.shape
  have hcl := HCl.out.1
  have hcn : ¬ C = [] := fun e => by rw [e] at hcl; simp at hcl
  clear hkey hm hc hi82 hx hC hE h hl
  go_enter Try.func109, Try.ntmps109
  go_wp2_with fail
  refine Calls.mono HC.out ?_
  rintro e w1 ⟨rfl, rfl⟩
  go_wp2_with (first
    | (refine wpList_store_new rfl 141 _ _ rfl (w.heap.size + 1) (w.alloc (.cells C.toArray 141)) (by simp) C.toArray E.toArray rfl rfl rfl (by rw [HEs.out]; exact HI.out) (by rw [HCs.out, HEs.out]) (all_oneCell_toArray HEl.out.2) ?_)
    | (refine wpList_copy_mid rfl _ _ 48 48 rfl Try.underlying48 HU8.out (w.heap.size + 1) 1 32 _ _ rfl rfl x HX.out.alloc.alloc HL.out (by decide) HT.out ?_)
    | (refine wpList_load_mid rfl 141 _ rfl (w.heap.size + 1) 0 rfl (wcells (a, x)) _ HF.out.range Try.underlying141 rfl (by rw [HWL.out]; exact HI.out) ?_)
    | (refine wpList_store_mid rfl 141 _ _ rfl w.heap.size 0 (wcells (a, x)).toArray rfl rfl (by rw [HWS.out]; exact HT3.out) (by rw [HWS.out]; exact HI.out) (all_oneCell_toArray (wcells_one _)) ?_)
    | fail)
  (try simp only [Exit.inBlock, Exit.then])
  refine ret_cell2 rfl w.heap.size (wcells (a, x)) _ _ rfl rfl ?_ Try.underlying141 rfl ?_ rfl ?_
  · exact (HB3.out.store (by rw [HWL.out, HCl.out.1])).range
  · rw [HWL.out]; exact HI.out
  refine ⟨rfl, ?_⟩
  have hA := belA2 (belR w) (o1 := .cells C.toArray 141) (o2 := .cells E.toArray 141)
  have hB := Fr.below (S := fun b => b = w.heap.size + 1) hA (Fr.cells _ _ 1 (x.map u8v)) (by simp; omega) (fun i hi => by omega)
  exact Fr.below (S := fun b => b = w.heap.size) hB (Fr.cells _ _ 0 _) hB.size (fun i hi => by omega)
end Go.Proofs.Ytenjpldinnbcbaa
