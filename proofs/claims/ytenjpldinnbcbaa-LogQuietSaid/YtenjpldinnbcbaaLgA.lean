/- Merged: LgW, LgP, LgF, LgT. -/
import Derived.Test.YtenjpldinnbcbaaSlS
import Derived.Test.YtenjpldinnbcbaaLive
import Derived.Test.YtenjpldinnbcbaaRecOk
import Derived.Test.YtenjpldinnbcbaaWk19
/- The walks of log.is, bad, disks, flush. Whole numbers that are owned. -/

namespace Go.Proofs.Ytenjpldinnbcbaa
open Go.RowKit
set_option linter.unusedVariables false
set_option linter.unusedSimpArgs false
set_option maxRecDepth 100000
set_option maxHeartbeats 1000000

def natv (n : Nat) : Value := .int .i64 (n : Int)
def OwnZ (w : World) (base : Nat) (v : Value) (l : List Nat) : Prop := w.ownsRow base 3 1 v l.length (l.map natv)
theorem OwnZ.nil (w : World) (base : Nat) : OwnZ w base (.slice none 0 0) [] := World.ownsRow_nil _ _ _ _
theorem OwnZ.up {w w' : World} {base : Nat} {v : Value} {T : List Nat} (h : OwnZ w base v T) (hb : Below w.heap.size w w') : OwnZ w' base v T := row_up h hb
theorem OwnZ.ge {w : World} {base : Nat} {v : Value} {T : List Nat} (h : OwnZ w base v T) : ∀ g, v.ownBlock = some g → base ≤ g := fun g hg => (World.ownsRow.lt h g hg).1
theorem OwnZ.lts {w : World} {base : Nat} {v : Value} {T : List Nat} (h : OwnZ w base v T) : ∀ g, v.ownBlock = some g → g < w.heap.size := fun g hg => (World.ownsRow.lt h g hg).2
theorem OwnZ.fr {S : Nat → Prop} {w w' : World} {base : Nat} {v : Value} {T : List Nat} (h : OwnZ w base v T) (k : Fr S w w') (hb : ∀ g, v.ownBlock = some g → ¬ S g) : OwnZ w' base v T := row_fr h k hb
theorem OwnZ.shape {w : World} {base : Nat} {v : Value} {T : List Nat} (h : OwnZ w base v T) : ∃ ao cap, v = .slice ao T.length cap ∧ T.length ≤ cap ∧ cap ≤ 9223372036854775807 := by
  have h0 : w.ownsRow base 3 1 v T.length (T.map natv) := h
  rcases h0.2 with ⟨rfl, hn⟩ | ⟨b, cap, cur, rfl, _, _, k, k2, _⟩
  · exact ⟨none, 0, by rw [hn], by omega, by omega⟩
  · exact ⟨_, cap, rfl, k, k2⟩
theorem OwnZ.at {w : World} {base n cap : Nat} {ao : Option Addr} {T : List Nat} (h : OwnZ w base (.slice ao n cap) T) {i s : Nat} (hp : T[i]? = some s) : ∃ g, ao = some ⟨g, 0, none⟩ ∧ w.cell? ⟨g, i, none⟩ = some (.int .i64 (s : Int)) := by
  have hi := (List.getElem?_eq_some_iff.1 hp).1
  have h0 : w.ownsRow base 3 1 (.slice ao n cap) T.length (T.map natv) := h
  rcases h0.2 with ⟨e, hn⟩ | ⟨g, cap', cur, e, _⟩
  · omega
  · cases e
    refine ⟨g, rfl, ?_⟩
    have := h0.cells (g := g) rfl i (natv s) (by rw [List.getElem?_map, hp]; rfl)
    rwa [Addr.add_mid, Nat.zero_add] at this
theorem int_inf : (Try.prog.info? 3).map (fun i => (i.zero, i.size, i.bytes)) = some (some (.int .i64 0), 1, 8) := by kernel_rfl
theorem wpList_append_int {P : Program} {w : World} {ops : Array Oper} {rest : List Oper} {o : Oper} {a : Act} {Q : Exit → Act → World → Prop} (hgd : o.guard = none) (s x : Operand) (t : TypeId)
    (ho : o.op = .call { callee := .builtin .append, args := #[s, x], argTypes := #[t, t] })
    (i : TypeInfo) (ht : P.underlying t = some (.slice 3)) (hi : P.info? 3 = some i) (hz : i.zero = some (.int .i64 0)) (hsize : i.size = 1) (hby : i.bytes = 8)
    (base : Nat) (v : Value) (T : List Nat) (hs : a.eval s = v) (hown : OwnZ w base v T) (g m c : Nat) (q : Nat) (hx : a.eval x = .slice (some ⟨g, 0, none⟩) m c) (hm : m = 1)
    (hnews : w.cell? ⟨g, 0, none⟩ = some (.int .i64 (q : Int)))
    (h63 : T.length + 1 ≤ 1048576) (hbase : base ≤ w.heap.size)
    (h : ∀ v' w', OwnZ w' base v' (T ++ [q]) → w.grownBy w' v.ownBlock → wpList P ops Q rest (a.put o.dst v') w') : wpList P ops Q (o :: rest) a w :=
  wpList_plain hgd fun _ hK => by
    subst hm
    have hn' : ∀ j u, ([q].map natv)[j]? = some u → w.cell? ((⟨g, 0, none⟩ : Addr).add j) = some u := by
      intro j u hu
      have hj : j < 1 := by have := (List.getElem?_eq_some_iff.1 hu).1; simpa using this
      have : j = 0 := by omega
      subst this
      rw [Addr.add_mid, Nat.zero_add, hnews]
      simpa [natv] using hu
    obtain ⟨v', w', hr, h2, h3, _⟩ := run_append_own (P := P) w base t o.type 3 i (.int .i64 0) 1 8 ht hi hz hsize hby rfl (by decide) v T.length (T.map natv) hown ⟨g, 0, none⟩ 1 c ([q].map natv) (by simp) hn' (by intro u hu; simp at hu; subst hu; rfl) (by simp only [maxLen]; omega) (by omega) hbase
    unfold Oper.wp execOp
    simp only [ho, resolve, invoke, builtin, Sem.run_bind, Sem.run_pure, Result.andThen_ok, List.map_toArray, List.map_cons, List.map_nil, hs, hx, hr]
    refine hK _ _ (h v' w' ?_ h3)
    show World.ownsRow _ _ _ _ _ _ _
    rw [List.length_append, List.map_append]; exact h2
/-- the disks that are live -/
def onL (lvs : List Bool) (n : Nat) : List Nat := (List.range n).filter (fun d => B.live1 lvs d)
theorem onL_yes {lvs : List Bool} {n : Nat} (h : B.live1 lvs n = true) : onL lvs (n + 1) = onL lvs n ++ [n] := by unfold onL; rw [List.range_succ, List.filter_append]; simp [h]
theorem onL_no {lvs : List Bool} {n : Nat} (h : B.live1 lvs n = false) : onL lvs (n + 1) = onL lvs n := by unfold onL; rw [List.range_succ, List.filter_append]; simp [h]
theorem onL_len (lvs : List Bool) (n : Nat) : (onL lvs n).length ≤ n := by unfold onL; have := List.length_filter_le (fun d => B.live1 lvs d) (List.range n); simpa using this
theorem onL_lt {lvs : List Bool} {n d : Nat} (h : d ∈ onL lvs n) : d < n ∧ B.live1 lvs d = true := by unfold onL at h; have := List.mem_filter.1 h; exact ⟨List.mem_range.1 this.1, this.2⟩
theorem lgis_any (v : Value) (l : List Bool) (d : Nat) (w : World) (h : Bools w v l) (hd : d ≤ 1000000) :
    Calls Try.prog 74 #[v, .int .i64 (d : Int)] w fun e w' => e = .returned (.bool (B.live1 l d)) ∧ w = w' := by
  have H := Lib.hid h
  obtain ⟨al, cl, rfl, h1, h2⟩ := h.shapeB
  obtain ⟨m, hm⟩ : ∃ m, m = l.length := ⟨_, rfl⟩
  rw [← hm] at H h1 ⊢
  have HM := Lib.hid hm
  have hd0 : (0 : Int) ≤ (d : Int) := by omega
  have hd0' : decide ((0 : Int) ≤ (d : Int)) = true := decide_eq_true hd0
  clear h hm
  by_cases hlt : d < m
  · have hlt' : (d : Int) < (m : Int) := by omega
    obtain ⟨b, off, x, rfl, hx, hxk⟩ := H.out.cellAt (k := d) (by rw [← HM.out]; exact hlt)
    have EX : Hid (B.live1 l d = x) := by show _ = _; unfold B.live1; rw [List.getD, hxk.out]; rfl
    clear hlt
    go_enter Try.func74, Try.ntmps74
    go_wp2
    go_ret
    exact ⟨ret_bool EX.out.symm, rfl⟩
  · have hkB : decide ((d : Int) < (m : Int)) = false := by rw [decide_eq_false_iff_not]; omega
    have hkP : ((d : Int) < (m : Int)) = False := by rw [eq_iff_iff]; exact ⟨fun h => by omega, fun h => h.elim⟩
    have EX : Hid (B.live1 l d = false) := by show _ = _; unfold B.live1; rw [List.getD, List.getElem?_eq_none (by rw [← HM.out]; omega)]; rfl
    clear hlt
    go_enter Try.func74, Try.ntmps74
    go_wp2
    go_ret
    exact ⟨ret_bool EX.out.symm, rfl⟩
theorem lgbad_any (e : Int) (w : World) : Calls Try.prog 68 #[.int .i64 e] w fun r w' => r = .returned (.bool (decide (e ≠ 0 ∧ e ≠ 5))) ∧ w = w' := by
  by_cases h0 : e = 0
  · subst h0
    go_enter Try.func68, Try.ntmps68
    go_wp2
    go_ret
    exact ⟨rfl, rfl⟩
  · have hb : (e != 0) = true := by rw [bne_iff_ne]; exact h0
    by_cases h5 : e = 5
    · subst h5
      clear h0 hb
      go_enter Try.func68, Try.ntmps68
      go_wp2
      go_ret
      exact ⟨rfl, rfl⟩
    · have hb5 : (e != 5) = true := by rw [bne_iff_ne]; exact h5
      have E := Lib.hid (decide_eq_true (p := e ≠ 0 ∧ e ≠ 5) ⟨h0, h5⟩)
      clear h0 h5
      go_enter Try.func68, Try.ntmps68
      go_wp2
      go_ret
      exact ⟨ret_bool E.out.symm, rfl⟩
attribute [local irreducible] Go.Calls Byt Own Parts PA BA Bools OwnD OwnT OwnZ
theorem disks_any (w : World) (base g : Nat) (lv : Value) (hs : List (Nat × Value)) (b : B.Bn) (vv : Value) (lvs : List Bool) (h : IsBench w base g lv hs b) (hn : b.ds.length ≤ 8) (hV : Bools w vv lvs) :
    Calls Try.prog 67 #[.pointer (some ⟨g, 0, none⟩), vv] w fun r w' => ∃ v, r = .returned v ∧ OwnZ w' w.heap.size v (onL lvs b.ds.length) ∧ Below w.heap.size w w' := by
  obtain ⟨i0, hi0, hz0, hz1, hz2⟩ := info_parts int_inf
  have HL := blen_any w base g lv hs b h
  obtain ⟨N, hN⟩ : ∃ N, N = b.ds.length := ⟨_, rfl⟩
  rw [← hN] at HL hn ⊢
  have HL := Lib.hid HL
  have HV := Lib.hid hV
  clear h hV hN
  go_enter Try.func67, Try.ntmps67
  go_wp2_with fail
  refine Calls.mono HL.out ?_
  rintro r w1 ⟨rfl, rfl⟩
  go_wp2
  go_loopw [5, 9] (fun ov dv X => ∃ d : Nat, d ≤ N ∧ dv = .int .i64 d ∧ Hid (OwnZ X w.heap.size ov (onL lvs d)) ∧ Below w.heap.size w X) (fun _ dv _ => N - (intOf dv).toNat)
  case atStart => exact ⟨0, Nat.zero_le _, rfl, Lib.hid (OwnZ.nil _ _), belR _⟩
  case round =>
    obtain ⟨d, hd, rfl, HO, BX⟩ := hrel
    by_cases hlt : d < N
    · have hdI : (d : Int) < (N : Int) := by omega
      have hd0 : (0 : Int) ≤ (d : Int) := by omega
      have hd1 : IntKind.i64.wrap ((d : Int) + 1) = ((d + 1 : Nat) : Int) := by rw [IntKind.wrap_i64]; omega
      have HLT := Lib.hid hlt
      have HIS := Lib.hid (lgis_any vv lvs d wr (HV.out.up BX) (by omega))
      obtain ⟨lk, hlk⟩ : ∃ lk, lk = B.live1 lvs d := ⟨_, rfl⟩
      rw [← hlk] at HIS
      have HLK := Lib.hid hlk
      obtain ⟨ao, cap, rfl, _, _⟩ := HO.out.shape
      clear hlt hlk
      go_wp2_with fail
      refine Calls.mono HIS.out ?_
      rintro r w2 ⟨rfl, rfl⟩
      cases lk with
      | true =>
        have HNX := Lib.hid (onL_yes HLK.out.symm)
        have HO4 : Hid (∀ o, OwnZ (wr.alloc o) w.heap.size (.slice ao (onL lvs d).length cap) (onL lvs d)) := Lib.hid (fun o => HO.out.up (belA1 (belR _)))
        have hsz := BX.size
        have hll := onL_len lvs d
        go_wp2_with (at_builtin; go_loud (refine wpList_append_int rfl _ _ 22 rfl i0 Try.underlying22 hi0 hz0 hz1 hz2 w.heap.size _ (onL lvs d) rfl (HO4.out _) wr.heap.size 1 1 d rfl rfl (by simp) (by omega) (by simp; omega) ?_); intro v5 w5 O6 g5)
        have BE : Below w.heap.size w w5 := belG (belA1 BX) g5 (fun y hy => HO.out.ge y hy)
        rw [← HNX.out] at O6
        go_roundw
        case rel => exact ⟨d + 1, HLT.out, by go_num, Lib.hid O6, BE⟩
        case measure => have := HLT.out; simp [intOf]; omega
      | false =>
        have HO4 : Hid (OwnZ wr w.heap.size (.slice ao (onL lvs d).length cap) (onL lvs (d + 1))) := by rw [onL_no HLK.out.symm]; exact HO
        go_wp2
        go_roundw
        case rel => exact ⟨d + 1, HLT.out, by go_num, HO4, BX⟩
        case measure => have := HLT.out; simp [intOf]; omega
    · have hde : d = N := by omega
      subst hde
      go_wp2
      go_ret
      exact ⟨_, rfl, HO.out, BX⟩
end Go.Proofs.Ytenjpldinnbcbaa
/- Plain law of log.Put: four sectors put on each live disk that has not failed, and flushed. -/

namespace Go.Proofs.Ytenjpldinnbcbaa.B
open Go.RowKit
set_option linter.unusedVariables false
set_option linter.unusedSimpArgs false

def wL (c : Bn) (m : Nat) (all : List (List Nat)) : Nat → Bn
  | 0 => c
  | k + 1 => write (wL c m all k) (m : Int) ((2 + k : Nat) : Int) (all.getD k [])
def wD (d : D.Dk) (all : List (List Nat)) : Nat → D.Dk
  | 0 => d
  | k + 1 => D.write (wD d all k) (2 + k) (all.getD k [])
theorem wD_f (d : D.Dk) (all : List (List Nat)) (k : Nat) : (wD d all k).f = d.f := by
  induction k with
  | zero => rfl
  | succ k ih => show (D.write _ _ _).f = _; rw [← ih]; rfl
theorem wD_p (d : D.Dk) (all : List (List Nat)) (k : Nat) : (wD d all k).p.length = d.p.length + k := by
  induction k with
  | zero => rfl
  | succ k ih => show ((wD d all k).p ++ [_]).length = _; rw [List.length_append, ih]; rfl
theorem wD_ok {d : D.Dk} (h : D.Ok d) {all : List (List Nat)} (h32 : ∀ x ∈ all, x.length = 32) (h8 : ∀ x ∈ all, ∀ y ∈ x, y < 256) : ∀ k, k ≤ all.length → 2 + k ≤ 52 → D.Ok (wD d all k) := by
  intro k
  induction k with
  | zero => intro _ _; exact h
  | succ k ih =>
    intro hk h52
    have hg : all.getD k [] ∈ all := by rw [show all.getD k [] = all[k] by simp [List.getD, show k < all.length by omega]]; exact List.getElem_mem _
    exact D.write_ok (ih (by omega) (by omega)) (by omega) (h32 _ hg) (h8 _ hg)
theorem wD_look (d : D.Dk) (all : List (List Nat)) (k a : Nat) : D.look (wD d all k) a = if 2 ≤ a ∧ a < 2 + k then all.getD (a - 2) [] else D.look d a := by
  induction k with
  | zero => rw [if_neg (by omega)]; rfl
  | succ k ih =>
    show D.look (D.write (wD d all k) (2 + k) (all.getD k [])) a = _
    by_cases h : a = 2 + k
    · subst h
      rw [D.look_write_same, if_pos (by omega)]
      congr 1
      omega
    · rw [D.look_write_other _ _ (fun e => h e.symm), ih]
      by_cases h2 : 2 ≤ a ∧ a < 2 + k
      · rw [if_pos h2, if_pos (by omega)]
      · rw [if_neg h2, if_neg (by omega)]
/-- some of the sectors written on one disk -/
theorem wL_spec {c : Bn} (h : Pw c) {m : Nat} (hm : m < c.ds.length) {all : List (List Nat)} (h32 : ∀ x ∈ all, x.length = 32) (h8 : ∀ x ∈ all, ∀ y ∈ x, y < 256) : ∀ k, k ≤ all.length → 2 + k ≤ 52 →
    Pw (wL c m all k) ∧ c.writes ≤ (wL c m all k).writes ∧ (wL c m all k).writes ≤ c.writes + (k : Int) ∧ (wL c m all k).ds.length = c.ds.length ∧ ∀ i, at1 (wL c m all k) i = if i = m ∧ failB c m = false then wD (at1 c i) all k else at1 c i := by
  intro k
  induction k with
  | zero => intro _ _; exact ⟨h, Int.le_refl _, by show c.writes ≤ c.writes + ((0 : Nat) : Int); omega, rfl, fun i => by split <;> rfl⟩
  | succ k ih =>
    intro hk h52
    obtain ⟨u, w1, w2, e2, e3⟩ := ih (by omega) (by omega)
    have hmm : m < (wL c m all k).ds.length := by rw [e2]; exact hm
    have hg : all.getD k [] ∈ all := by rw [show all.getD k [] = all[k] by simp [List.getD, show k < all.length by omega]]; exact List.getElem_mem _
    have hff : failB (wL c m all k) m = failB c m := by
      show (at1 (wL c m all k) m).f = (at1 c m).f
      rw [e3]; split
      · exact wD_f _ _ _
      · rfl
    obtain ⟨_, wr⟩ := u.write1 (a := 2 + k) (x := all.getD k []) hmm (by omega) (h32 _ hg)
    rw [hff] at wr
    have e : wL c m all (k + 1) = write (wL c m all k) (m : Int) ((2 + k : Nat) : Int) (all.getD k []) := rfl
    cases hf : failB c m with
    | true =>
      rw [hf, if_pos rfl] at wr
      rw [e, wr]
      refine ⟨u, w1, by omega, e2, fun i => ?_⟩
      rw [e3, if_neg (fun h => by rw [hf] at h; cases h.2), if_neg (fun h => by cases h.2)]
    | false =>
      rw [hf, if_neg (by decide)] at wr
      rw [e, wr]
      refine ⟨⟨u.down, u.left, fun d hd => ?_⟩, by show c.writes ≤ (wL c m all k).writes + 1; omega, by show (wL c m all k).writes + 1 ≤ _; omega, by show (List.set _ _ _).length = _; rw [List.length_set, e2], fun i => ?_⟩
      · rcases List.mem_or_eq_of_mem_set hd with h1 | h1
        · exact u.ok d h1
        · rw [h1, at1_eq hmm]; exact D.write_ok (u.ok _ (List.getElem_mem hmm)) (by omega) (h32 _ hg) (h8 _ hg)
      · rw [at1_set hmm]
        by_cases him : i = m
        · subst him
          rw [if_pos rfl, e3, if_pos ⟨rfl, hf⟩, if_pos ⟨rfl, rfl⟩]; rfl
        · rw [if_neg him, e3, if_neg (fun h => him h.1), if_neg (fun h => him h.1)]
def pL (c : Bn) (lv : List Bool) (all : List (List Nat)) : Nat → Bn
  | 0 => c
  | m + 1 => if live1 lv m then wL (pL c lv all m) m all all.length else pL c lv all m
theorem pL_spec {c : Bn} (h : Pw c) (lv : List Bool) {all : List (List Nat)} (h32 : ∀ x ∈ all, x.length = 32) (h8 : ∀ x ∈ all, ∀ y ∈ x, y < 256) (hn : all.length = 4) : ∀ m, m ≤ c.ds.length →
    Pw (pL c lv all m) ∧ c.writes ≤ (pL c lv all m).writes ∧ (pL c lv all m).writes ≤ c.writes + ((4 * m : Nat) : Int) ∧ (pL c lv all m).ds.length = c.ds.length ∧ ∀ i, at1 (pL c lv all m) i = if i < m ∧ live1 lv i = true ∧ failB c i = false then wD (at1 c i) all 4 else at1 c i := by
  intro m
  induction m with
  | zero => intro _; exact ⟨h, Int.le_refl _, by show c.writes ≤ c.writes + ((4 * 0 : Nat) : Int); omega, rfl, fun i => by rw [if_neg (by omega)]; rfl⟩
  | succ m ih =>
    intro hm
    obtain ⟨u, w1, w2, e2, e3⟩ := ih (by omega)
    by_cases hl : live1 lv m = true
    · have e : pL c lv all (m + 1) = wL (pL c lv all m) m all all.length := by show (if _ then _ else _) = _; rw [if_pos hl]
      obtain ⟨v1, x1, x2, y2, y3⟩ := wL_spec u (m := m) (by rw [e2]; omega) h32 h8 all.length (Nat.le_refl _) (by omega)
      have hff : failB (pL c lv all m) m = failB c m := by
        show (at1 (pL c lv all m) m).f = (at1 c m).f
        rw [e3, if_neg (by omega)]
      rw [e]
      refine ⟨v1, by omega, by rw [hn] at x2 ⊢; omega, y2.trans e2, fun i => ?_⟩
      rw [y3, hff, hn]
      by_cases him : i = m
      · subst him
        have e0 : at1 (pL c lv all i) i = at1 c i := by rw [e3, if_neg (by omega)]
        rw [e0]
        cases hf : failB c i with
        | false => rw [if_pos ⟨rfl, rfl⟩, if_pos ⟨by omega, hl, rfl⟩]
        | true => rw [if_neg (fun h => by cases h.2), if_neg (fun h => by cases h.2.2)]
      · rw [if_neg (fun h => him h.1), e3]
        by_cases h2 : i < m ∧ live1 lv i = true ∧ failB c i = false
        · rw [if_pos h2, if_pos ⟨by omega, h2.2⟩]
        · rw [if_neg h2, if_neg (fun h3 => h2 ⟨by omega, h3.2⟩)]
    · have e : pL c lv all (m + 1) = pL c lv all m := by show (if _ then _ else _) = _; rw [if_neg hl]
      rw [e]
      refine ⟨u, w1, by omega, e2, fun i => ?_⟩
      rw [e3]
      by_cases h2 : i < m ∧ live1 lv i = true ∧ failB c i = false
      · rw [if_pos h2, if_pos ⟨by omega, h2.2⟩]
      · rw [if_neg h2, if_neg (fun h3 => h2 ⟨by
          have : i ≠ m := fun e => by rw [e] at h3; exact hl h3.2.1
          omega, h3.2⟩)]
def putR (c : Bn) (lv : List Bool) (all : List (List Nat)) : Bn := flW (pL c lv all c.ds.length) lv c.ds.length
theorem putR_spec {c : Bn} (h : Pw c) (lv : List Bool) {all : List (List Nat)} (h32 : ∀ x ∈ all, x.length = 32) (h8 : ∀ x ∈ all, ∀ y ∈ x, y < 256) (hn : all.length = 4) :
    Pw (putR c lv all) ∧ c.writes ≤ (putR c lv all).writes ∧ (putR c lv all).writes ≤ c.writes + ((4 * c.ds.length : Nat) : Int) ∧ (putR c lv all).ds.length = c.ds.length ∧ (∀ i, i < c.ds.length → failB (putR c lv all) i = failB c i) ∧
    (∀ i, i < c.ds.length → ∀ a, a < 52 → lookB (putR c lv all) i a = if live1 lv i = true ∧ failB c i = false ∧ 2 ≤ a ∧ a < 6 then all.getD (a - 2) [] else lookB c i a) ∧ ∀ i, i < c.ds.length → (at1 (putR c lv all) i).p.length ≤ (at1 c i).p.length := by
  obtain ⟨u1, w1, w1', l1, s1⟩ := pL_spec h lv h32 h8 hn c.ds.length (Nat.le_refl _)
  obtain ⟨u2, w2, l2, s2⟩ := fS_spec u1 lv c.ds.length (by rw [l1]; exact Nat.le_refl _)
  have hok : ∀ i, i < c.ds.length → D.Ok (at1 (pL c lv all c.ds.length) i) := fun i hi => by rw [at1_eq (by rw [l1]; exact hi)]; exact u1.ok _ (List.getElem_mem _)
  refine ⟨u2, by show c.writes ≤ (flW _ _ _).writes; rw [w2]; exact w1, by show (flW _ _ _).writes ≤ _; rw [w2]; exact w1', l2.trans l1, fun i hi => ?_, fun i hi a ha => ?_, fun i hi => ?_⟩
  · show (at1 (flW _ _ _) i).f = (at1 c i).f
    rw [s2]
    have : (at1 (pL c lv all c.ds.length) i).f = (at1 c i).f := by rw [s1]; split; exact wD_f _ _ _; rfl
    split
    · rw [flushed_f, this]
    · exact this
  · show D.look (at1 (flW _ _ _) i) a = if _ then _ else D.look (at1 c i) a
    have hff : failB c i = (at1 c i).f := rfl
    by_cases hl : live1 lv i = true
    · rw [s2, if_pos ⟨hi, hl⟩]
      cases hf : failB c i with
      | true =>
        rw [s1, if_neg (fun h3 => by rw [hf] at h3; cases h3.2.2), if_neg (fun h3 => by cases h3.2.1)]
        unfold D.flushed
        rw [← hff, hf, if_pos rfl]
      | false =>
        have hw : at1 (pL c lv all c.ds.length) i = wD (at1 c i) all 4 := by rw [s1, if_pos ⟨hi, hl, hf⟩]
        have hwf : (at1 (pL c lv all c.ds.length) i).f = false := by rw [hw, wD_f]; rw [← hff, hf]
        unfold D.flushed
        rw [hwf, if_neg (by decide), D.look_flush (hok i hi) ha, hw, wD_look]
        by_cases hca : 2 ≤ a ∧ a < 6
        · rw [if_pos ⟨hca.1, by omega⟩, if_pos ⟨hl, rfl, hca⟩]
        · rw [if_neg (fun h => hca ⟨h.1, by omega⟩), if_neg (fun h3 => hca h3.2.2)]
    · rw [s2, if_neg (fun h3 => hl h3.2), s1, if_neg (fun h3 => hl h3.2.1), if_neg (fun h3 => hl h3.1)]
  · show (at1 (flW _ _ _) i).p.length ≤ _
    by_cases hl : live1 lv i = true
    · rw [s2, if_pos ⟨hi, hl⟩]
      cases hf : failB c i with
      | true =>
        rw [s1, if_neg (fun h3 => by rw [hf] at h3; cases h3.2.2)]
        have hff : (at1 c i).f = true := hf
        unfold D.flushed
        rw [hff, if_pos rfl]
        exact Nat.le_refl _
      | false =>
        have hw : at1 (pL c lv all c.ds.length) i = wD (at1 c i) all 4 := by rw [s1, if_pos ⟨hi, hl, hf⟩]
        have hff : (at1 c i).f = false := hf
        have hwf : (at1 (pL c lv all c.ds.length) i).f = false := by rw [hw, wD_f]; exact hff
        unfold D.flushed
        rw [hwf, if_neg (by decide)]
        exact Nat.zero_le _
    · rw [s2, if_neg (fun h3 => hl h3.2), s1, if_neg (fun h3 => hl h3.2.1)]
      exact Nat.le_refl _
/-- the disks one after the other -/
theorem flW_fold (c : Bn) (lv : List Bool) (m : Nat) : (onL lv m).foldl (fun c d => { c with ds := c.ds.set d (D.flushed (dk c (d : Int))) }) c = flW c lv m := by
  induction m with
  | zero => rfl
  | succ m ih =>
    by_cases hl : live1 lv m = true
    · rw [onL_yes hl, List.foldl_append, ih]
      show _ = (if _ then _ else _)
      rw [if_pos hl]; rfl
    · rw [onL_no (by simpa using hl), ih]
      show _ = (if _ then _ else _)
      rw [if_neg hl]
theorem pL_fold (c : Bn) (lv : List Bool) (all : List (List Nat)) (m : Nat) : (onL lv m).foldl (fun c d => wL c d all all.length) c = pL c lv all m := by
  induction m with
  | zero => rfl
  | succ m ih =>
    by_cases hl : live1 lv m = true
    · rw [onL_yes hl, List.foldl_append, ih]
      show _ = (if _ then _ else _)
      rw [if_pos hl]; rfl
    · rw [onL_no (by simpa using hl), ih]
      show _ = (if _ then _ else _)
      rw [if_neg hl]
end Go.Proofs.Ytenjpldinnbcbaa.B
/- The walk of log.flush over the live disks. -/

namespace Go.Proofs.Ytenjpldinnbcbaa
open Go.RowKit
set_option linter.unusedVariables false
set_option linter.unusedSimpArgs false
set_option maxRecDepth 100000
set_option maxHeartbeats 1000000
def flS (c : B.Bn) (d : Nat) : B.Bn := { c with ds := c.ds.set d (D.flushed (B.dk c (d : Int))) }
theorem flS_pw {c : B.Bn} (h : B.Pw c) {d : Nat} (hd : d < c.ds.length) : B.Pw (flS c d) ∧ (flS c d).ds.length = c.ds.length := by
  have hdk : B.dk c (d : Int) = B.at1 c d := by rw [B.at1_eq hd]; exact B.dk_nat (List.getElem?_eq_getElem hd)
  refine ⟨⟨h.down, h.left, fun e he => ?_⟩, by show (c.ds.set _ _).length = _; rw [List.length_set]⟩
  rcases List.mem_or_eq_of_mem_set he with h1 | h1
  · exact h.ok e h1
  · rw [h1, hdk, B.at1_eq hd]
    have hk := h.ok _ (List.getElem_mem hd)
    unfold D.flushed
    split
    · exact hk
    · exact D.flush_ok hk
theorem flF_pw {c : B.Bn} (h : B.Pw c) : ∀ {T : List Nat}, (∀ d ∈ T, d < c.ds.length) → B.Pw (T.foldl flS c) ∧ (T.foldl flS c).ds.length = c.ds.length := by
  intro T
  induction T generalizing c with
  | nil => intro _; exact ⟨h, rfl⟩
  | cons d T ih =>
    intro hT
    obtain ⟨u, l⟩ := flS_pw h (hT d (List.mem_cons_self ..))
    obtain ⟨u2, l2⟩ := ih u (fun e he => by rw [l]; exact hT e (List.mem_cons_of_mem _ he))
    exact ⟨u2, l2.trans l⟩
attribute [local irreducible] Go.Calls Byt Own Parts PA BA Bools OwnD OwnT OwnZ
theorem flush_list (w : World) (base g : Nat) (lv : Value) (hs : List (Nat × Value)) (b : B.Bn) (v : Value) (T : List Nat) (bz : Nat) (h : IsBench w base g lv hs b) (hU : B.Pw b) (hZ : OwnZ w bz v T) (hap : ∀ y, v.ownBlock = some y → ¬ ofB g lv hs y) (hT : ∀ d ∈ T, d < b.ds.length) (hl : T.length ≤ 1000) :
    Calls Try.prog 69 #[.pointer (some ⟨g, 0, none⟩), v] w fun r w' => r = .returned (.int .i64 0) ∧ SX w base g lv hs w' (T.foldl flS b) := by
  have HZ := Lib.hid hZ
  obtain ⟨ao, cap, rfl, _, _⟩ := hZ.shape
  obtain ⟨N, hN⟩ : ∃ N, N = T.length := ⟨_, rfl⟩
  rw [← hN] at HZ hl hap ⊢
  have HN := Lib.hid hN
  have HU := Lib.hid hU
  have HT := Lib.hid hT
  have HAP := Lib.hid hap
  have S0 : Hid (SX w base g lv hs w b) := ⟨hs, h, Fr.refl _ _, fun y hy => .inl hy⟩
  clear hZ hU hT hN h hap
  go_enter Try.func69, Try.ntmps69
  go_wp2
  go_loopw [10] (fun kv X => ∃ k : Nat, k ≤ N ∧ kv = .int .i64 k ∧ Hid (SX w base g lv hs X ((T.take k).foldl flS b))) (fun kv _ => N - (intOf kv).toNat)
  case atStart => exact ⟨0, Nat.zero_le _, rfl, S0⟩
  case round =>
    obtain ⟨k, hk, rfl, HS⟩ := hrel
    by_cases hlt : k < N
    · have hk1 : IntKind.i64.wrap ((k : Int) + 1) = ((k + 1 : Nat) : Int) := by rw [IntKind.wrap_i64]; omega
      have hkI : (k : Int) < (N : Int) := by omega
      have hk0 : (0 : Int) ≤ (k : Int) := by omega
      have HLT := Lib.hid hlt
      obtain ⟨d, hd⟩ : ∃ d, T[k]? = some d := ⟨T[k]'(by rw [← HN.out]; exact hlt), List.getElem?_eq_getElem _⟩
      obtain ⟨hs1, I1, F1, q1⟩ := HS.out
      obtain ⟨gz, hao, hcd⟩ := (HZ.out.fr F1 HAP.out).at hd
      subst hao
      have HD := Lib.hid hd
      obtain ⟨u1, l1⟩ := flF_pw HU.out (T := T.take k) (fun e he => HT.out e (List.mem_of_mem_take he))
      have HCL := Lib.hid (bflush_yes wr base g lv hs1 ((T.take k).foldl flS b) d I1 (by rw [l1]; exact HT.out d (List.mem_of_getElem? hd)) u1.down)
      have HCL2 : Hid (Calls Try.prog 58 #[.pointer (some ⟨g, 0, none⟩), .int .i64 (d : Int)] wr fun e w' => e = .returned (.int .i64 (if (B.dk ((T.take k).foldl flS b) (d : Int)).f then 5 else 0)) ∧ SX w base g lv hs w' ((T.take (k + 1)).foldl flS b)) := by
        refine Calls.mono HCL.out ?_
        rintro e w' ⟨rfl, hs7, I7, F7, q7⟩
        refine ⟨rfl, ?_⟩
        rw [List.take_add_one, hd, List.foldl_append]
        exact SX.next F1 q1 I7 F7 q7
      obtain ⟨er, her⟩ : ∃ er : Int, er = if (B.dk ((T.take k).foldl flS b) (d : Int)).f then 5 else 0 := ⟨_, rfl⟩
      rw [← her] at HCL2
      have HB := lgbad_any er
      have hnb : decide (er ≠ 0 ∧ er ≠ 5) = false := by rw [her]; split <;> decide
      rw [hnb] at HB
      have HB := Lib.hid HB
      clear hlt hd I1 F1 q1 u1 l1 HCL her hnb HS
      go_wp2_with fail
      refine Calls.mono HCL2.out ?_
      rintro r w2 ⟨rfl, S2⟩
      have S2 := Lib.hid S2
      go_wp2_with fail
      refine Calls.mono (HB.out _) ?_
      rintro r w3 ⟨rfl, rfl⟩
      go_wp2
      go_roundw
      case rel => exact ⟨k + 1, HLT.out, by go_num, S2⟩
      case measure => have := HLT.out; simp [intOf]; omega
    · have hke : k = N := by omega
      subst hke
      have S9 := HS.out
      rw [HN.out, List.take_length] at S9
      have S9 := Lib.hid S9
      go_wp2
      go_ret
      exact ⟨rfl, S9.out⟩
end Go.Proofs.Ytenjpldinnbcbaa
/- The walk of log.Put. -/

namespace Go.Proofs.Ytenjpldinnbcbaa
open Go.RowKit
set_option linter.unusedVariables false
set_option linter.unusedSimpArgs false
set_option maxRecDepth 100000
set_option maxHeartbeats 2000000
namespace B
def stL (all : List (List Nat)) (c : Bn) (d : Nat) : Bn := wL c d all all.length
theorem wL_p {c : Bn} (h : Pw c) {m : Nat} (hm : m < c.ds.length) {all : List (List Nat)} (h32 : ∀ x ∈ all, x.length = 32) (h8 : ∀ x ∈ all, ∀ y ∈ x, y < 256) {k : Nat} (hk : k ≤ all.length) (h52 : 2 + k ≤ 52) {P : Nat} (hp : ∀ d ∈ c.ds, d.p.length ≤ P) : ∀ d ∈ (wL c m all k).ds, d.p.length ≤ P + k := by
  obtain ⟨u, w1, w2, e2, e3⟩ := wL_spec h hm h32 h8 k hk h52
  intro d hd
  obtain ⟨i, hi, rfl⟩ := List.getElem_of_mem hd
  have hi2 : i < c.ds.length := by rw [← e2]; exact hi
  rw [← at1_eq hi, e3]
  have := hp _ (List.getElem_mem hi2)
  rw [← at1_eq hi2] at this
  split
  · rw [wD_p]; omega
  · omega
theorem pF_pw {all : List (List Nat)} (h32 : ∀ x ∈ all, x.length = 32) (h8 : ∀ x ∈ all, ∀ y ∈ x, y < 256) (h4 : all.length = 4) : ∀ {T : List Nat} {c : Bn} {P : Nat}, Pw c → (∀ d ∈ T, d < c.ds.length) → (∀ d ∈ c.ds, d.p.length ≤ P) →
    Pw (T.foldl (stL all) c) ∧ (T.foldl (stL all) c).ds.length = c.ds.length ∧ (∀ d ∈ (T.foldl (stL all) c).ds, d.p.length ≤ P + 4 * T.length) ∧ c.writes ≤ (T.foldl (stL all) c).writes ∧ (T.foldl (stL all) c).writes ≤ c.writes + ((4 * T.length : Nat) : Int) := by
  intro T
  induction T with
  | nil => intro c P h _ hp; exact ⟨h, rfl, fun d hd => by have := hp d hd; simpa using this, Int.le_refl _, by show c.writes ≤ c.writes + ((4 * 0 : Nat) : Int); omega⟩
  | cons d T ih =>
    intro c P h hT hp
    have hd := hT d (List.mem_cons_self ..)
    obtain ⟨u, w1, w2, e2, _⟩ := wL_spec h hd h32 h8 all.length (Nat.le_refl _) (by omega)
    have hp2 := wL_p h hd h32 h8 (Nat.le_refl _) (by omega) hp
    obtain ⟨a1, a2, a3, a4, a5⟩ := ih (c := stL all c d) (P := P + 4) u (fun e he => by show e < (wL c d all all.length).ds.length; rw [e2]; exact hT e (List.mem_cons_of_mem _ he)) (fun e he => by have := hp2 e he; omega)
    have hw1 : c.writes ≤ (stL all c d).writes := w1
    have hw2 : (stL all c d).writes ≤ c.writes + 4 := by show (wL c d all all.length).writes ≤ _; rw [h4] at w2 ⊢; omega
    refine ⟨a1, a2.trans e2, fun e he => by have := a3 e he; rw [List.length_cons]; omega, by show c.writes ≤ (T.foldl (stL all) (stL all c d)).writes; omega, ?_⟩
    show (T.foldl (stL all) (stL all c d)).writes ≤ _
    rw [List.length_cons]; omega
end B
attribute [local irreducible] Go.Calls Byt Own Parts PA BA Bools OwnD OwnT OwnZ Items
theorem lput_yes (w : World) (base g : Nat) (lv : Value) (hs : List (Nat × Value)) (b : B.Bn) (vv : Value) (lvs : List Bool) (s : Int) (v : Value) (l : List RI) (h : IsBench w base g lv hs b) (hU : B.Pw b) (hb0 : base ≤ w.heap.size) (hL : BA (ofB g lv hs) w vv lvs) (hI : Items w v l) (hk : rok s l = true)
    (hn : b.ds.length ≤ 8) (hp : ∀ d ∈ b.ds, d.p.length ≤ 1000000) (hw : 0 ≤ b.writes ∧ b.writes ≤ 1000000000) :
    Calls Try.prog 29 #[.pointer (some ⟨g, 0, none⟩), vv, .agg #[.int .i64 s, v]] w fun r w' => r = .returned (.int .i64 0) ∧ ∃ hs', IsBench w' base g lv hs' (B.putR b lvs (renc s l)) ∧ Fr (ofB g lv hs) w w' ∧ ∀ y, ofB g lv hs' y → ofB g lv hs y ∨ w.heap.size ≤ y := by
  obtain ⟨_, hn3, _⟩ := (rok_iff s l).1 hk
  have hfine := rok_fine hk
  obtain ⟨AL, hAL⟩ : ∃ AL, AL = renc s l := ⟨_, rfl⟩
  have h4 : AL.length = 4 := by rw [hAL]; exact renc_len hn3
  have h32 : ∀ x ∈ AL, x.length = 32 := by rw [hAL]; exact renc_32 hn3 hfine
  have h8 : ∀ x ∈ AL, ∀ y ∈ x, y < 256 := by rw [hAL]; exact renc_byte hI.bytes
  have HE := Lib.hid (fun (o : Obj) => rencode_ok s v l (w.alloc o) (hI.up (belA1 (belR _))) hk)
  rw [← hAL] at HE ⊢
  obtain ⟨ai, ci, rfl, _, _⟩ := hI.shape
  have HB := Lib.hid h
  have HU := Lib.hid hU
  have HV := Lib.hid hL
  have HLT := Lib.hid h.lts
  have H4 := Lib.hid h4
  have H32 := Lib.hid h32
  have H8 := Lib.hid h8
  have HPW := Lib.hid (And.intro hp hw)
  clear h hU hL hI hk hAL h4 h32 h8 hfine hn3 hp hw
  go_enter Try.func29, Try.ntmps29
  go_wp2_with fail
  refine Calls.mono (HE.out _) ?_
  rintro r w2 ⟨dv, rfl, D2, b2⟩
  obtain ⟨ad, cd, rfl, _, _⟩ := D2.shape
  rw [H4.out]
  rw [H4.out] at D2
  have B2 := belT (belA1 (belR w)) b2
  have PA2 := D2.pa (S := ofB g lv hs) (fun y hy => by have := HLT.out y hy; simp; omega)
  have PA2 := Lib.hid PA2
  have HDK := Lib.hid (disks_any w2 base g lv hs b vv lvs (HB.out.up B2) hn (HV.out.up B2).bools)
  obtain ⟨T, hT⟩ : ∃ T, T = onL lvs b.ds.length := ⟨_, rfl⟩
  rw [← hT] at HDK
  have HT := Lib.hid hT
  have HTL := Lib.hid (show (∀ d ∈ T, d < b.ds.length) ∧ T.length ≤ 8 from ⟨fun d hd => by rw [hT] at hd; exact (onL_lt hd).1, by rw [hT]; have := onL_len lvs b.ds.length; omega⟩)
  clear D2 b2 hT
  go_wp2_with fail
  refine Calls.mono HDK.out ?_
  rintro r w4 ⟨zv, rfl, Z4, b4⟩
  have B4 := belT B2 b4
  have Z4 := Lib.hid Z4
  have ZG := Lib.hid (show ∀ y, zv.ownBlock = some y → w.heap.size ≤ y ∧ y < w4.heap.size from fun y hy => ⟨by have := Z4.out.ge y hy; have := B2.size; omega, Z4.out.lts y hy⟩)
  obtain ⟨az, cz, rfl, _, _⟩ := Z4.out.shape
  obtain ⟨M, hM⟩ : ∃ M, M = T.length := ⟨_, rfl⟩
  rw [← hM]
  rw [← hM] at Z4 ZG
  have HM := Lib.hid hM
  have hM8 : M ≤ 8 := by rw [hM]; exact HTL.out.2
  have PA4 := Lib.hid (PA2.out.up b4)
  have BW4 : Hid (Below w.heap.size w w4) := Lib.hid B4
  have S0 : Hid (SX w4 base g lv hs w4 b) := ⟨hs, HB.out.up B4, Fr.refl _ _, fun y hy => .inl hy⟩
  have SPEC := Lib.hid (fun (j : Nat) => B.pF_pw H32.out H8.out H4.out (T := T.take j) HU.out (fun d hd => HTL.out.1 d (List.mem_of_mem_take hd)) HPW.out.1)
  clear hM b4 B2
  go_wp2
  go_loopw [28] (fun jv X => ∃ j : Nat, j ≤ M ∧ jv = .int .i64 j ∧ Hid (SX w4 base g lv hs X ((T.take j).foldl (B.stL AL) b))) (fun jv _ => M - (intOf jv).toNat)
  case atStart => exact ⟨0, Nat.zero_le _, rfl, S0⟩
  case round =>
    obtain ⟨j, hjM, rfl, HS⟩ := hrel
    by_cases hlt : j < M
    · have j1 : (j : Int) < (M : Int) := by omega
      have j0 : (0 : Int) ≤ (j : Int) := by omega
      have j2 : IntKind.i64.wrap ((j : Int) + 1) = ((j + 1 : Nat) : Int) := by rw [IntKind.wrap_i64]; omega
      have HLT1 := Lib.hid hlt
      obtain ⟨d, hd⟩ : ∃ d, T[j]? = some d := ⟨T[j]'(by rw [← HM.out]; exact hlt), List.getElem?_eq_getElem _⟩
      have hcd : ∃ gz, az = some ⟨gz, 0, none⟩ ∧ wr.cell? ⟨gz, j, none⟩ = some (.int .i64 (d : Int)) := by
        obtain ⟨hs1, I1, F1, q1⟩ := HS.out
        exact (Z4.out.fr F1 (fun y hy h => by have := ZG.out y hy; have := HLT.out y h; omega)).at hd
      obtain ⟨gz, haz, hcz⟩ := hcd
      have HAZ := Lib.hid haz
      subst haz
      obtain ⟨cj, hcj⟩ : ∃ cj, cj = (T.take j).foldl (B.stL AL) b := ⟨_, rfl⟩
      have hsp := SPEC.out j
      rw [← hcj] at HS hsp
      have HSP := Lib.hid hsp
      have HCJ := Lib.hid hcj
      have HTJ := Lib.hid (show (T.take j).length ≤ 8 by rw [List.length_take]; omega)
      have HDB := Lib.hid (show d < cj.ds.length by rw [hsp.2.1]; exact HTL.out.1 d (List.mem_of_getElem? hd))
      have HNXT : Hid ((T.take (j + 1)).foldl (B.stL AL) b = B.wL cj d AL 4) := by
        rw [List.take_add_one, hd, List.foldl_append, ← hcj]
        show B.wL cj d AL AL.length = _
        rw [H4.out]
      clear hlt hd hjM hsp hcj
      go_wp2
      go_loopw [34] (fun kv Y => ∃ k : Nat, k ≤ 4 ∧ kv = .int .i64 k ∧ Hid (SX w4 base g lv hs Y (B.wL cj d AL k))) (fun kv _ => 4 - (intOf kv).toNat)
      case atStart => exact ⟨0, Nat.zero_le _, rfl, HS⟩
      case round =>
        obtain ⟨k, hk4, rfl, HK⟩ := hrel
        by_cases hkl : k < 4
        · have k1 : (k : Int) < 4 := by omega
          have k0 : (0 : Int) ≤ (k : Int) := by omega
          have k2 : IntKind.i64.wrap ((k : Int) + 1) = ((k + 1 : Nat) : Int) := by rw [IntKind.wrap_i64]; omega
          have k3 : IntKind.i64.wrap (2 + (k : Int)) = ((2 + k : Nat) : Int) := by rw [IntKind.wrap_i64]; omega
          have HKL := Lib.hid hkl
          obtain ⟨hs6, I6, F6, q6⟩ := HK.out
          obtain ⟨bb, ob, cc, p, hbo, hcc, hp, hy, hap⟩ := (PA4.out.step F6 q6).get (k := k) (by rw [H4.out]; exact hkl)
          have hp32 : p.length = 32 := H32.out p (List.mem_of_getElem? hp.out)
          have HBO := Lib.hid hbo
          subst hbo
          obtain ⟨ac, kc, rfl, _, _⟩ := hy.shapeN hp32
          obtain ⟨m1, m2, m3, m4, m5⟩ := B.wL_spec HSP.out.1 HDB.out H32.out H8.out k (by rw [H4.out]; omega) (by omega)
          have m6 := B.wL_p HSP.out.1 HDB.out H32.out H8.out (k := k) (by rw [H4.out]; omega) (by omega) HSP.out.2.2.1
          have hgp : AL.getD k [] = p := by rw [List.getD, hp.out]; rfl
          have hwE := (m1.write1 (m := d) (a := 2 + k) (x := p) (by rw [m4]; exact HDB.out) (by omega) hp32).1
          have HW := bwrite_any _ base g lv hs6 _ (d : Int) ((2 + k : Nat) : Int) (.slice ac 32 kc) p I6 hy (hap (by intro e; rw [e] at hp32; cases hp32)) (by have := BW4.out.size; have := F6.size; omega)
            (fun dk hdk => by have := m6 dk hdk; have := HTJ.out; omega) (by have := HPW.out.2; have := HSP.out.2.2.2; have := HTJ.out; omega) (by rw [m1.left]; decide)
          rw [hwE] at HW
          obtain ⟨er, her⟩ : ∃ er : Int, er = if B.failB (B.wL cj d AL k) d then 5 else 0 := ⟨_, rfl⟩
          rw [← her] at HW
          have HW2 : Hid (Calls Try.prog 40 #[.pointer (some ⟨g, 0, none⟩), .int .i64 (d : Int), .int .i64 ((2 + k : Nat) : Int), .slice ac 32 kc] wr fun e w' => e = .returned (.int .i64 er) ∧ SX w4 base g lv hs w' (B.wL cj d AL (k + 1))) := by
            refine Calls.mono HW ?_
            rintro e w' ⟨rfl, hs7, I7, F7, q7⟩
            refine ⟨rfl, ?_⟩
            show SX _ _ _ _ _ _ (B.write _ _ _ (AL.getD k []))
            rw [hgp]
            exact SX.next F6 q6 I7 F7 q7
          have HBD := lgbad_any er
          have hnb : decide (er ≠ 0 ∧ er ≠ 5) = false := by rw [her]; split <;> decide
          rw [hnb] at HBD
          have HBD := Lib.hid HBD
          clear hkl hk4 I6 F6 q6 hp hy hap hp32 m1 m2 m3 m4 m5 m6 hgp hwE HW her hnb HK
          go_wp2_with fail
          refine Calls.mono HW2.out ?_
          rintro r w7 ⟨rfl, S7⟩
          have S7 := Lib.hid S7
          go_wp2_with fail
          refine Calls.mono (HBD.out _) ?_
          rintro r w8 ⟨rfl, rfl⟩
          go_wp2
          go_roundw
          case rel => exact ⟨k + 1, HKL.out, by go_num, S7⟩
          case measure => have := HKL.out; simp [intOf]; omega
        · have hke : k = 4 := by omega
          subst hke
          have HS2 : Hid (SX w4 base g lv hs wr ((T.take (j + 1)).foldl (B.stL AL) b)) := by rw [HNXT.out]; exact HK
          clear HK
          go_wp2
          go_roundw
          case rel => exact ⟨j + 1, HLT1.out, by go_num, HS2⟩
          case measure => have := HLT1.out; simp [intOf]; omega
    · have hje : j = M := by omega
      subst hje
      have hsp := SPEC.out j
      rw [HM.out, List.take_length] at hsp
      have hS := HS.out
      rw [HM.out, List.take_length] at hS
      obtain ⟨hs6, I6, F6, q6⟩ := hS
      have Z6 := Z4.out.fr F6 (fun y hy h => by have := ZG.out y hy; have := HLT.out y h; omega)
      have HFL := Lib.hid (flush_list wr base g lv hs6 _ _ T _ I6 hsp.1 Z6 (fun y hy h => by
        have := ZG.out y hy
        rcases q6 y h with h | h
        · have := HLT.out y h; omega
        · omega) (fun d hd => by rw [hsp.2.1]; exact HTL.out.1 d hd) (by have := HTL.out.2; omega))
      have HF6 := Lib.hid (And.intro F6 q6)
      clear I6 F6 q6 Z6 hsp HS
      go_wp2_with fail
      refine Calls.mono HFL.out ?_
      rintro r w9 ⟨rfl, hs9, I9, F9, q9⟩
      have HR : Hid (∃ hs', IsBench w9 base g lv hs' (B.putR b lvs AL) ∧ Fr (ofB g lv hs) w w9 ∧ ∀ y, ofB g lv hs' y → ofB g lv hs y ∨ w.heap.size ≤ y) := by
        have hs4 := BW4.out.size
        refine ⟨hs9, ?_, ((Fr.of_below (S := ofB g lv hs) BW4.out).trans HF6.out.1).transN F9 (fun y hy => ?_), fun y hy => ?_⟩
        · have e1 : T.foldl (B.stL AL) b = B.pL b lvs AL b.ds.length := by rw [HT.out]; exact B.pL_fold b lvs AL b.ds.length
          have e2 : T.foldl flS (B.pL b lvs AL b.ds.length) = B.putR b lvs AL := by rw [HT.out]; exact B.flW_fold _ lvs b.ds.length
          rw [← e2, ← e1]; exact I9
        · rcases HF6.out.2 y hy with h | h
          · exact .inl h
          · exact .inr (by omega)
        · rcases q9 y hy with h | h
          · rcases HF6.out.2 y h with h | h
            · exact .inl h
            · exact .inr (by omega)
          · exact .inr (by have := HF6.out.1.size; omega)
      clear I9 F9 q9
      go_wp2
      go_ret
      exact ⟨rfl, HR.out⟩
end Go.Proofs.Ytenjpldinnbcbaa
