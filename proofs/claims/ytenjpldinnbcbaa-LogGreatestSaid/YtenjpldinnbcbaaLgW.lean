/- The walks of log.is, bad, disks, flush. Whole numbers that are owned. -/
import Derived.Test.YtenjpldinnbcbaaSlS
import Derived.Test.YtenjpldinnbcbaaLive
namespace Go.Proofs.Ytenjpldinnbcbaa
open Go.RowKit
set_option linter.unusedVariables false
set_option linter.unusedSimpArgs false
set_option maxRecDepth 100000
set_option maxHeartbeats 1000000

def natv (n : Nat) : Value := .int .i64 (n : Int)
def OwnZ (w : World) (base : Nat) (v : Value) (l : List Nat) : Prop := w.ownsRow base 3 1 v l.length (l.map natv)
theorem OwnZ.nil (w : World) (base : Nat) : OwnZ w base (.slice none 0 0) [] := World.ownsRow_nil _ _ _ _
theorem OwnZ.up {w w' : World} {base : Nat} {v : Value} {T : List Nat} (h : OwnZ w base v T) (hb : Below w.heap.size w w') : OwnZ w' base v T := row_up h hb
theorem OwnZ.ge {w : World} {base : Nat} {v : Value} {T : List Nat} (h : OwnZ w base v T) : ∀ g, v.ownBlock = some g → base ≤ g := fun g hg => (World.ownsRow.lt h g hg).1
theorem OwnZ.lts {w : World} {base : Nat} {v : Value} {T : List Nat} (h : OwnZ w base v T) : ∀ g, v.ownBlock = some g → g < w.heap.size := fun g hg => (World.ownsRow.lt h g hg).2
theorem OwnZ.fr {S : Nat → Prop} {w w' : World} {base : Nat} {v : Value} {T : List Nat} (h : OwnZ w base v T) (k : Fr S w w') (hb : ∀ g, v.ownBlock = some g → ¬ S g) : OwnZ w' base v T := row_fr h k hb
theorem OwnZ.shape {w : World} {base : Nat} {v : Value} {T : List Nat} (h : OwnZ w base v T) : ∃ ao cap, v = .slice ao T.length cap ∧ T.length ≤ cap ∧ cap ≤ 9223372036854775807 := by
  have h0 : w.ownsRow base 3 1 v T.length (T.map natv) := h
  rcases h0.2 with ⟨rfl, hn⟩ | ⟨b, cap, cur, rfl, _, _, k, k2, _⟩
  · exact ⟨none, 0, by rw [hn], by omega, by omega⟩
  · exact ⟨_, cap, rfl, k, k2⟩
theorem OwnZ.at {w : World} {base n cap : Nat} {ao : Option Addr} {T : List Nat} (h : OwnZ w base (.slice ao n cap) T) {i s : Nat} (hp : T[i]? = some s) : ∃ g, ao = some ⟨g, 0, none⟩ ∧ w.cell? ⟨g, i, none⟩ = some (.int .i64 (s : Int)) := by
  have hi := (List.getElem?_eq_some_iff.1 hp).1
  have h0 : w.ownsRow base 3 1 (.slice ao n cap) T.length (T.map natv) := h
  rcases h0.2 with ⟨e, hn⟩ | ⟨g, cap', cur, e, _⟩
  · omega
  · cases e
    refine ⟨g, rfl, ?_⟩
    have := h0.cells (g := g) rfl i (natv s) (by rw [List.getElem?_map, hp]; rfl)
    rwa [Addr.add_mid, Nat.zero_add] at this
theorem int_inf : (Try.prog.info? 3).map (fun i => (i.zero, i.size, i.bytes)) = some (some (.int .i64 0), 1, 8) := by kernel_rfl
theorem wpList_append_int {P : Program} {w : World} {ops : Array Oper} {rest : List Oper} {o : Oper} {a : Act} {Q : Exit → Act → World → Prop} (hgd : o.guard = none) (s x : Operand) (t : TypeId)
    (ho : o.op = .call { callee := .builtin .append, args := #[s, x], argTypes := #[t, t] })
    (i : TypeInfo) (ht : P.underlying t = some (.slice 3)) (hi : P.info? 3 = some i) (hz : i.zero = some (.int .i64 0)) (hsize : i.size = 1) (hby : i.bytes = 8)
    (base : Nat) (v : Value) (T : List Nat) (hs : a.eval s = v) (hown : OwnZ w base v T) (g m c : Nat) (q : Nat) (hx : a.eval x = .slice (some ⟨g, 0, none⟩) m c) (hm : m = 1)
    (hnews : w.cell? ⟨g, 0, none⟩ = some (.int .i64 (q : Int)))
    (h63 : T.length + 1 ≤ 1048576) (hbase : base ≤ w.heap.size)
    (h : ∀ v' w', OwnZ w' base v' (T ++ [q]) → w.grownBy w' v.ownBlock → wpList P ops Q rest (a.put o.dst v') w') : wpList P ops Q (o :: rest) a w :=
  wpList_plain hgd fun _ hK => by
    subst hm
    have hn' : ∀ j u, ([q].map natv)[j]? = some u → w.cell? ((⟨g, 0, none⟩ : Addr).add j) = some u := by
      intro j u hu
      have hj : j < 1 := by have := (List.getElem?_eq_some_iff.1 hu).1; simpa using this
      have : j = 0 := by omega
      subst this
      rw [Addr.add_mid, Nat.zero_add, hnews]
      simpa [natv] using hu
    obtain ⟨v', w', hr, h2, h3, _⟩ := run_append_own (P := P) w base t o.type 3 i (.int .i64 0) 1 8 ht hi hz hsize hby rfl (by decide) v T.length (T.map natv) hown ⟨g, 0, none⟩ 1 c ([q].map natv) (by simp) hn' (by intro u hu; simp at hu; subst hu; rfl) (by simp only [maxLen]; omega) (by omega) hbase
    unfold Oper.wp execOp
    simp only [ho, resolve, invoke, builtin, Sem.run_bind, Sem.run_pure, Result.andThen_ok, List.map_toArray, List.map_cons, List.map_nil, hs, hx, hr]
    refine hK _ _ (h v' w' ?_ h3)
    show World.ownsRow _ _ _ _ _ _ _
    rw [List.length_append, List.map_append]; exact h2
/-- the disks that are live -/
def onL (lvs : List Bool) (n : Nat) : List Nat := (List.range n).filter (fun d => B.live1 lvs d)
theorem onL_yes {lvs : List Bool} {n : Nat} (h : B.live1 lvs n = true) : onL lvs (n + 1) = onL lvs n ++ [n] := by unfold onL; rw [List.range_succ, List.filter_append]; simp [h]
theorem onL_no {lvs : List Bool} {n : Nat} (h : B.live1 lvs n = false) : onL lvs (n + 1) = onL lvs n := by unfold onL; rw [List.range_succ, List.filter_append]; simp [h]
theorem onL_len (lvs : List Bool) (n : Nat) : (onL lvs n).length ≤ n := by unfold onL; have := List.length_filter_le (fun d => B.live1 lvs d) (List.range n); simpa using this
theorem onL_lt {lvs : List Bool} {n d : Nat} (h : d ∈ onL lvs n) : d < n ∧ B.live1 lvs d = true := by unfold onL at h; have := List.mem_filter.1 h; exact ⟨List.mem_range.1 this.1, this.2⟩
theorem lgis_any (v : Value) (l : List Bool) (d : Nat) (w : World) (h : Bools w v l) (hd : d ≤ 1000000) :
    Calls Try.prog 74 #[v, .int .i64 (d : Int)] w fun e w' => e = .returned (.bool (B.live1 l d)) ∧ w = w' := by
  have H := Lib.hid h
  obtain ⟨al, cl, rfl, h1, h2⟩ := h.shapeB
  obtain ⟨m, hm⟩ : ∃ m, m = l.length := ⟨_, rfl⟩
  rw [← hm] at H h1 ⊢
  have HM := Lib.hid hm
  have hd0 : (0 : Int) ≤ (d : Int) := by omega
  have hd0' : decide ((0 : Int) ≤ (d : Int)) = true := decide_eq_true hd0
  clear h hm
  by_cases hlt : d < m
  · have hlt' : (d : Int) < (m : Int) := by omega
    obtain ⟨b, off, x, rfl, hx, hxk⟩ := H.out.cellAt (k := d) (by rw [← HM.out]; exact hlt)
    have EX : Hid (B.live1 l d = x) := by show _ = _; unfold B.live1; rw [List.getD, hxk.out]; rfl
    clear hlt
    go_enter Try.func74, Try.ntmps74
    go_wp2
    go_ret
    exact ⟨ret_bool EX.out.symm, rfl⟩
  · have hkB : decide ((d : Int) < (m : Int)) = false := by rw [decide_eq_false_iff_not]; omega
    have hkP : ((d : Int) < (m : Int)) = False := by rw [eq_iff_iff]; exact ⟨fun h => by omega, fun h => h.elim⟩
    have EX : Hid (B.live1 l d = false) := by show _ = _; unfold B.live1; rw [List.getD, List.getElem?_eq_none (by rw [← HM.out]; omega)]; rfl
    clear hlt
    go_enter Try.func74, Try.ntmps74
    go_wp2
    go_ret
    exact ⟨ret_bool EX.out.symm, rfl⟩
theorem lgbad_any (e : Int) (w : World) : Calls Try.prog 68 #[.int .i64 e] w fun r w' => r = .returned (.bool (decide (e ≠ 0 ∧ e ≠ 5))) ∧ w = w' := by
  by_cases h0 : e = 0
  · subst h0
    go_enter Try.func68, Try.ntmps68
    go_wp2
    go_ret
    exact ⟨rfl, rfl⟩
  · have hb : (e != 0) = true := by rw [bne_iff_ne]; exact h0
    by_cases h5 : e = 5
    · subst h5
      clear h0 hb
      go_enter Try.func68, Try.ntmps68
      go_wp2
      go_ret
      exact ⟨rfl, rfl⟩
    · have hb5 : (e != 5) = true := by rw [bne_iff_ne]; exact h5
      have E := Lib.hid (decide_eq_true (p := e ≠ 0 ∧ e ≠ 5) ⟨h0, h5⟩)
      clear h0 h5
      go_enter Try.func68, Try.ntmps68
      go_wp2
      go_ret
      exact ⟨ret_bool E.out.symm, rfl⟩
attribute [local irreducible] Go.Calls Byt Own Parts PA BA Bools OwnD OwnT OwnZ
theorem disks_any (w : World) (base g : Nat) (lv : Value) (hs : List (Nat × Value)) (b : B.Bn) (vv : Value) (lvs : List Bool) (h : IsBench w base g lv hs b) (hn : b.ds.length ≤ 8) (hV : Bools w vv lvs) :
    Calls Try.prog 67 #[.pointer (some ⟨g, 0, none⟩), vv] w fun r w' => ∃ v, r = .returned v ∧ OwnZ w' w.heap.size v (onL lvs b.ds.length) ∧ Below w.heap.size w w' := by
  obtain ⟨i0, hi0, hz0, hz1, hz2⟩ := info_parts int_inf
  have HL := blen_any w base g lv hs b h
  obtain ⟨N, hN⟩ : ∃ N, N = b.ds.length := ⟨_, rfl⟩
  rw [← hN] at HL hn ⊢
  have HL := Lib.hid HL
  have HV := Lib.hid hV
  clear h hV hN
  go_enter Try.func67, Try.ntmps67
  go_wp2_with fail
  refine Calls.mono HL.out ?_
  rintro r w1 ⟨rfl, rfl⟩
  go_wp2
  go_loopw [5, 9] (fun ov dv X => ∃ d : Nat, d ≤ N ∧ dv = .int .i64 d ∧ Hid (OwnZ X w.heap.size ov (onL lvs d)) ∧ Below w.heap.size w X) (fun _ dv _ => N - (intOf dv).toNat)
  case atStart => exact ⟨0, Nat.zero_le _, rfl, Lib.hid (OwnZ.nil _ _), belR _⟩
  case round =>
    obtain ⟨d, hd, rfl, HO, BX⟩ := hrel
    by_cases hlt : d < N
    · have hdI : (d : Int) < (N : Int) := by omega
      have hd0 : (0 : Int) ≤ (d : Int) := by omega
      have hd1 : IntKind.i64.wrap ((d : Int) + 1) = ((d + 1 : Nat) : Int) := by rw [IntKind.wrap_i64]; omega
      have HLT := Lib.hid hlt
      have HIS := Lib.hid (lgis_any vv lvs d wr (HV.out.up BX) (by omega))
      obtain ⟨lk, hlk⟩ : ∃ lk, lk = B.live1 lvs d := ⟨_, rfl⟩
      rw [← hlk] at HIS
      have HLK := Lib.hid hlk
      obtain ⟨ao, cap, rfl, _, _⟩ := HO.out.shape
      clear hlt hlk
      go_wp2_with fail
      refine Calls.mono HIS.out ?_
      rintro r w2 ⟨rfl, rfl⟩
      cases lk with
      | true =>
        have HNX := Lib.hid (onL_yes HLK.out.symm)
        have HO4 : Hid (∀ o, OwnZ (wr.alloc o) w.heap.size (.slice ao (onL lvs d).length cap) (onL lvs d)) := Lib.hid (fun o => HO.out.up (belA1 (belR _)))
        have hsz := BX.size
        have hll := onL_len lvs d
        go_wp2_with (at_builtin; go_loud (refine wpList_append_int rfl _ _ 22 rfl i0 Try.underlying22 hi0 hz0 hz1 hz2 w.heap.size _ (onL lvs d) rfl (HO4.out _) wr.heap.size 1 1 d rfl rfl (by simp) (by omega) (by simp; omega) ?_); intro v5 w5 O6 g5)
        have BE : Below w.heap.size w w5 := belG (belA1 BX) g5 (fun y hy => HO.out.ge y hy)
        rw [← HNX.out] at O6
        go_roundw
        case rel => exact ⟨d + 1, HLT.out, by go_num, Lib.hid O6, BE⟩
        case measure => have := HLT.out; simp [intOf]; omega
      | false =>
        have HO4 : Hid (OwnZ wr w.heap.size (.slice ao (onL lvs d).length cap) (onL lvs (d + 1))) := by rw [onL_no HLK.out.symm]; exact HO
        go_wp2
        go_roundw
        case rel => exact ⟨d + 1, HLT.out, by go_num, HO4, BX⟩
        case measure => have := HLT.out; simp [intOf]; omega
    · have hde : d = N := by omega
      subst hde
      go_wp2
      go_ret
      exact ⟨_, rfl, HO.out, BX⟩
end Go.Proofs.Ytenjpldinnbcbaa
