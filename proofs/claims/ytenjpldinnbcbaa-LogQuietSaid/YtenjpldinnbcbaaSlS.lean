/- Merged: SlP, SlS. -/
import Derived.Test.YtenjpldinnbcbaaBkG
import Derived.Test.YtenjpldinnbcbaaSlA
import Derived.Test.YtenjpldinnbcbaaLive
import Derived.Deep.CutRange
/- Plain law of slots.Store: a sector put on each live disk that has not failed, and flushed. -/

namespace Go.Proofs.Ytenjpldinnbcbaa.B
open Go.RowKit
set_option linter.unusedVariables false
set_option linter.unusedSimpArgs false

/-- power, any number of writes; disks may have failed -/
structure Pw (b : Bn) : Prop where
  down : b.down = false
  left : b.left = -1
  ok : ∀ d ∈ b.ds, D.Ok d
theorem Pw.lv {b : Bn} (h : Pw b) : Lv b := ⟨h.down, h.ok⟩
theorem Up.pw {b : Bn} (h : Up b) : Pw b := ⟨h.down, h.left, h.ok⟩
def at1 (b : Bn) (i : Nat) : D.Dk := b.ds.getD i D.blank
theorem at1_eq {b : Bn} {i : Nat} (h : i < b.ds.length) : at1 b i = b.ds[i] := by unfold at1; simp [List.getD, h]
theorem at1_set {b : Bn} {m i : Nat} {d : D.Dk} (hm : m < b.ds.length) (ws : Int) : at1 { b with writes := ws, ds := b.ds.set m d } i = if i = m then d else at1 b i := by
  unfold at1
  show (b.ds.set m d).getD i D.blank = _
  by_cases h : i = m
  · subst h; rw [if_pos rfl]; simp [List.getD, hm]
  · rw [if_neg h]; simp only [List.getD, List.getElem?_set_ne (fun e => h e.symm)]
theorem Pw.write1 {b : Bn} (h : Pw b) {m a : Nat} {x : List Nat} (hm : m < b.ds.length) (ha : a < 52) (hx : x.length = 32) :
    writeE b (m : Int) (a : Int) x = (if failB b m then 5 else 0) ∧ write b (m : Int) (a : Int) x = if failB b m then b else { b with writes := b.writes + 1, ds := b.ds.set m (D.write (at1 b m) a x) } := by
  have hi := List.getElem?_eq_getElem hm
  have e3 := at1_eq hm
  have hfb : failB b m = (b.ds[m]).f := by unfold failB; rw [← e3]; rfl
  cases hf : (b.ds[m]).f with
  | false =>
    obtain ⟨e1, e2⟩ := write_ok (b := b) (i := m) h.down hi hf ha hx (by rw [h.left]; decide)
    rw [hfb, hf]
    refine ⟨e1, ?_⟩
    rw [e2, e3]
    unfold counted
    rw [h.left]
    simp [h.left]
  | true =>
    rw [hfb, hf]
    have hk := dk_nat hi
    have hmm := may_ok (b := b) h.down hm
    have hp : putI (b.ds[m]) (a : Int) x = 5 := by unfold putI D.may; rw [hf, if_pos rfl, if_pos (by decide)]
    unfold writeE write
    rw [hk, hmm, hp]
    exact ⟨rfl, rfl⟩
def wS (b : Bn) (lv : List Bool) (a : Nat) (x : List Nat) : Nat → Bn
  | 0 => b
  | m + 1 => if live1 lv m then write (wS b lv a x m) (m : Int) (a : Int) x else wS b lv a x m
def cntS (b : Bn) (lv : List Bool) : Nat → Nat
  | 0 => 0
  | m + 1 => cntS b lv m + if live1 lv m && !failB b m then 1 else 0
def storeB (b : Bn) (lv : List Bool) (a : Nat) (x : List Nat) : Bn := flW (wS b lv a x b.ds.length) lv b.ds.length
theorem wS_spec {b : Bn} (h : Pw b) (lv : List Bool) {a : Nat} {x : List Nat} (ha : a < 52) (hx : x.length = 32) (h8 : ∀ y ∈ x, y < 256) : ∀ m, m ≤ b.ds.length →
    Pw (wS b lv a x m) ∧ (wS b lv a x m).writes = b.writes + (cntS b lv m : Nat) ∧ (wS b lv a x m).ds.length = b.ds.length ∧ ∀ i, at1 (wS b lv a x m) i = if i < m ∧ live1 lv i = true ∧ failB b i = false then D.write (at1 b i) a x else at1 b i := by
  intro m
  induction m with
  | zero => intro _; exact ⟨h, by show b.writes = b.writes + ((0 : Nat) : Int); omega, rfl, fun i => by rw [if_neg (by omega)]; rfl⟩
  | succ m ih =>
    intro hm
    obtain ⟨u, e1, e2, e3⟩ := ih (by omega)
    have hmm : m < (wS b lv a x m).ds.length := by rw [e2]; omega
    have hff : failB (wS b lv a x m) m = failB b m := by
      show (at1 (wS b lv a x m) m).f = (at1 b m).f
      rw [e3, if_neg (by omega)]
    by_cases hl : live1 lv m = true
    · have e : wS b lv a x (m + 1) = write (wS b lv a x m) (m : Int) (a : Int) x := by show (if _ then _ else _) = _; rw [if_pos hl]
      obtain ⟨_, w2⟩ := u.write1 (a := a) (x := x) hmm ha hx
      rw [hff] at w2
      cases hf : failB b m with
      | true =>
        rw [hf, if_pos rfl] at w2
        rw [e, w2]
        refine ⟨u, ?_, e2, fun i => ?_⟩
        · rw [e1]; show _ = b.writes + ((cntS b lv m + if live1 lv m && !failB b m then 1 else 0 : Nat) : Int); rw [hf, Bool.not_true, Bool.and_false, if_neg (by decide)]; rfl
        · rw [e3]
          by_cases him : i = m
          · subst him; rw [if_neg (by omega), if_neg (by rw [hf]; simp)]
          · by_cases h2 : i < m ∧ live1 lv i = true ∧ failB b i = false
            · rw [if_pos h2, if_pos ⟨by omega, h2.2⟩]
            · rw [if_neg h2, if_neg (fun h3 => h2 ⟨by omega, h3.2⟩)]
      | false =>
        rw [hf, if_neg (by decide)] at w2
        rw [e, w2]
        refine ⟨⟨u.down, u.left, fun d hd => ?_⟩, ?_, by show (List.set _ _ _).length = _; rw [List.length_set, e2], fun i => ?_⟩
        · rcases List.mem_or_eq_of_mem_set hd with h1 | h1
          · exact u.ok d h1
          · rw [h1, at1_eq hmm]; exact D.write_ok (u.ok _ (List.getElem_mem hmm)) ha hx h8
        · show (wS b lv a x m).writes + 1 = b.writes + ((cntS b lv m + if live1 lv m && !failB b m then 1 else 0 : Nat) : Int)
          rw [e1, hf, hl, Bool.not_false, Bool.and_true, if_pos rfl]
          omega
        · rw [at1_set hmm]
          by_cases him : i = m
          · subst him
            rw [if_pos rfl, e3, if_neg (by omega), if_pos ⟨by omega, hl, hf⟩]
          · rw [if_neg him, e3]
            by_cases h2 : i < m ∧ live1 lv i = true ∧ failB b i = false
            · rw [if_pos h2, if_pos ⟨by omega, h2.2⟩]
            · rw [if_neg h2, if_neg (fun h3 => h2 ⟨by omega, h3.2⟩)]
    · have e : wS b lv a x (m + 1) = wS b lv a x m := by show (if _ then _ else _) = _; rw [if_neg hl]
      rw [e]
      refine ⟨u, ?_, e2, fun i => ?_⟩
      · rw [e1]; show _ = b.writes + ((cntS b lv m + if live1 lv m && !failB b m then 1 else 0 : Nat) : Int); rw [show live1 lv m = false by simpa using hl, Bool.false_and, if_neg (by decide)]; rfl
      · rw [e3]
        by_cases h2 : i < m ∧ live1 lv i = true ∧ failB b i = false
        · rw [if_pos h2, if_pos ⟨by omega, h2.2⟩]
        · rw [if_neg h2, if_neg (fun h3 => h2 ⟨by
            have : i ≠ m := fun e => by rw [e] at h3; exact hl h3.2.1
            omega, h3.2⟩)]
theorem fS_spec {b : Bn} (h : Pw b) (lv : List Bool) : ∀ m, m ≤ b.ds.length →
    Pw (flW b lv m) ∧ (flW b lv m).writes = b.writes ∧ (flW b lv m).ds.length = b.ds.length ∧ ∀ i, at1 (flW b lv m) i = if i < m ∧ live1 lv i = true then D.flushed (at1 b i) else at1 b i := by
  intro m
  induction m with
  | zero => intro _; exact ⟨h, rfl, rfl, fun i => by rw [if_neg (by omega)]; rfl⟩
  | succ m ih =>
    intro hm
    obtain ⟨u, e1, e2, e3⟩ := ih (by omega)
    have hmm : m < (flW b lv m).ds.length := by rw [e2]; omega
    by_cases hl : live1 lv m = true
    · have hdk : dk (flW b lv m) (m : Int) = at1 (flW b lv m) m := by rw [at1_eq hmm]; exact dk_nat (List.getElem?_eq_getElem hmm)
      have e : flW b lv (m + 1) = { flW b lv m with ds := (flW b lv m).ds.set m (D.flushed (at1 (flW b lv m) m)) } := by show (if _ then _ else _) = _; rw [if_pos hl, hdk]
      rw [e]
      refine ⟨⟨u.down, u.left, fun d hd => ?_⟩, e1, by show (List.set _ _ _).length = _; rw [List.length_set, e2], fun i => ?_⟩
      · rcases List.mem_or_eq_of_mem_set hd with h1 | h1
        · exact u.ok d h1
        · rw [h1]
          have hk := u.ok _ (List.getElem_mem hmm)
          rw [at1_eq hmm]
          unfold D.flushed
          split
          · exact hk
          · exact D.flush_ok hk
      · have := at1_set (b := flW b lv m) (i := i) (d := D.flushed (at1 (flW b lv m) m)) hmm (flW b lv m).writes
        rw [show at1 { flW b lv m with ds := (flW b lv m).ds.set m (D.flushed (at1 (flW b lv m) m)) } i = _ from this]
        by_cases him : i = m
        · subst him
          rw [if_pos rfl, e3, if_neg (by omega), if_pos ⟨by omega, hl⟩]
        · rw [if_neg him, e3]
          by_cases h2 : i < m ∧ live1 lv i = true
          · rw [if_pos h2, if_pos ⟨by omega, h2.2⟩]
          · rw [if_neg h2, if_neg (fun h3 => h2 ⟨by omega, h3.2⟩)]
    · have e : flW b lv (m + 1) = flW b lv m := by show (if _ then _ else _) = _; rw [if_neg hl]
      rw [e]
      refine ⟨u, e1, e2, fun i => ?_⟩
      rw [e3]
      by_cases h2 : i < m ∧ live1 lv i = true
      · rw [if_pos h2, if_pos ⟨by omega, h2.2⟩]
      · rw [if_neg h2, if_neg (fun h3 => h2 ⟨by
          have : i ≠ m := fun e => by rw [e] at h3; exact hl h3.2
          omega, h3.2⟩)]
theorem flushed_f (d : D.Dk) : (D.flushed d).f = d.f := by unfold D.flushed; split <;> rfl
theorem store_spec {b : Bn} (h : Pw b) (lv : List Bool) {a : Nat} {x : List Nat} (ha : a < 52) (hx : x.length = 32) (h8 : ∀ y ∈ x, y < 256) :
    Pw (storeB b lv a x) ∧ (storeB b lv a x).writes = b.writes + (cntS b lv b.ds.length : Nat) ∧ (storeB b lv a x).ds.length = b.ds.length ∧ (∀ i, i < b.ds.length → failB (storeB b lv a x) i = failB b i) ∧
    (∀ i, i < b.ds.length → ∀ c, c < 52 → lookB (storeB b lv a x) i c = if live1 lv i = true ∧ failB b i = false ∧ c = a then x else lookB b i c) ∧ ∀ i, i < b.ds.length → (at1 (storeB b lv a x) i).p.length ≤ (at1 b i).p.length := by
  obtain ⟨u1, w1, l1, s1⟩ := wS_spec h lv ha hx h8 b.ds.length (Nat.le_refl _)
  obtain ⟨u2, w2, l2, s2⟩ := fS_spec u1 lv b.ds.length (by rw [l1]; exact Nat.le_refl _)
  have hok : ∀ i, i < b.ds.length → D.Ok (at1 (wS b lv a x b.ds.length) i) := fun i hi => by rw [at1_eq (by rw [l1]; exact hi)]; exact u1.ok _ (List.getElem_mem _)
  refine ⟨u2, by show (flW _ _ _).writes = _; rw [w2, w1], l2.trans l1, fun i hi => ?_, fun i hi c hc => ?_, fun i hi => ?_⟩
  · show (at1 (flW _ _ _) i).f = (at1 b i).f
    rw [s2]
    split
    · rw [flushed_f, s1]; split <;> rfl
    · rw [s1]; split <;> rfl
  · show D.look (at1 (flW _ _ _) i) c = if _ then x else D.look (at1 b i) c
    have hff : failB b i = (at1 b i).f := rfl
    by_cases hl : live1 lv i = true
    · rw [s2, if_pos ⟨hi, hl⟩]
      cases hf : failB b i with
      | true =>
        rw [s1, if_neg (fun h3 => by rw [hf] at h3; cases h3.2.2), if_neg (fun h3 => by cases h3.2.1)]
        unfold D.flushed
        rw [← hff, hf, if_pos rfl]
      | false =>
        have hw : at1 (wS b lv a x b.ds.length) i = D.write (at1 b i) a x := by rw [s1, if_pos ⟨hi, hl, hf⟩]
        have hwf : (at1 (wS b lv a x b.ds.length) i).f = false := by rw [hw]; show (at1 b i).f = false; rw [← hff, hf]
        unfold D.flushed
        rw [hwf, if_neg (by decide), D.look_flush (hok i hi) hc, hw]
        by_cases hca : c = a
        · subst hca; rw [D.look_write_same, if_pos ⟨hl, rfl, rfl⟩]
        · rw [D.look_write_other _ _ (fun e => hca e.symm), if_neg (fun h3 => hca h3.2.2)]
    · rw [s2, if_neg (fun h3 => hl h3.2), s1, if_neg (fun h3 => hl h3.2.1), if_neg (fun h3 => hl h3.1)]
  · show (at1 (flW _ _ _) i).p.length ≤ _
    by_cases hl : live1 lv i = true
    · rw [s2, if_pos ⟨hi, hl⟩]
      cases hf : failB b i with
      | true =>
        rw [s1, if_neg (fun h3 => by rw [hf] at h3; cases h3.2.2)]
        have hff : (at1 b i).f = true := hf
        unfold D.flushed
        rw [hff, if_pos rfl]
        exact Nat.le_refl _
      | false =>
        have hw : at1 (wS b lv a x b.ds.length) i = D.write (at1 b i) a x := by rw [s1, if_pos ⟨hi, hl, hf⟩]
        have hff : (at1 b i).f = false := hf
        have hwf : (at1 (wS b lv a x b.ds.length) i).f = false := by rw [hw]; exact hff
        unfold D.flushed
        rw [hwf, if_neg (by decide)]
        exact Nat.zero_le _
    · rw [s2, if_neg (fun h3 => hl h3.2), s1, if_neg (fun h3 => hl h3.2.1)]
      exact Nat.le_refl _
theorem cntS_le (b : Bn) (lv : List Bool) (m : Nat) : cntS b lv m ≤ m := by
  induction m with
  | zero => exact Nat.le_refl _
  | succ m ih => show cntS b lv m + (if _ then 1 else 0) ≤ m + 1; split <;> omega
theorem wS_p {b : Bn} (h : Pw b) (lv : List Bool) {a : Nat} {x : List Nat} (ha : a < 52) (hx : x.length = 32) (h8 : ∀ y ∈ x, y < 256) {P : Nat} (hp : ∀ d ∈ b.ds, d.p.length ≤ P) {m : Nat} (hm : m ≤ b.ds.length) : ∀ d ∈ (wS b lv a x m).ds, d.p.length ≤ P + 1 := by
  obtain ⟨u1, w1, l1, s1⟩ := wS_spec h lv ha hx h8 m hm
  intro d hd
  obtain ⟨i, hi, rfl⟩ := List.getElem_of_mem hd
  rw [← at1_eq hi, s1]
  have hib : i < b.ds.length := by rw [← l1]; exact hi
  have : (at1 b i).p.length ≤ P := by rw [at1_eq hib]; exact hp _ (List.getElem_mem hib)
  split
  · show ((at1 b i).p ++ [_]).length ≤ _; rw [List.length_append]; simp; omega
  · omega
end Go.Proofs.Ytenjpldinnbcbaa.B
/- The walk of slots.Store. -/

namespace Go.Proofs.Ytenjpldinnbcbaa
open Go.RowKit C
set_option linter.unusedVariables false
set_option linter.unusedSimpArgs false
set_option maxRecDepth 100000
set_option maxHeartbeats 1000000

theorem slis_any (v : Value) (l : List Bool) (d : Nat) (w : World) (h : Bools w v l) (hd : d ≤ 1000000) :
    Calls Try.prog 77 #[v, .int .i64 (d : Int)] w fun e w' => e = .returned (.bool (B.live1 l d)) ∧ w = w' := by
  have H := Lib.hid h
  obtain ⟨al, cl, rfl, h1, h2⟩ := h.shapeB
  obtain ⟨m, hm⟩ : ∃ m, m = l.length := ⟨_, rfl⟩
  rw [← hm] at H h1 ⊢
  have HM := Lib.hid hm
  have hd0 : (0 : Int) ≤ (d : Int) := by omega
  clear h hm
  by_cases hlt : d < m
  · have hlt' : (d : Int) < (m : Int) := by omega
    obtain ⟨b, off, x, rfl, hx, hxk⟩ := H.out.cellAt (k := d) (by rw [← HM.out]; exact hlt)
    have EX : Hid (B.live1 l d = x) := by show _ = _; unfold B.live1; rw [List.getD, hxk.out]; rfl
    clear hlt
    go_enter Try.func77, Try.ntmps77
    go_wp2
    go_ret
    exact ⟨ret_bool EX.out.symm, rfl⟩
  · have hkB : decide ((d : Int) < (m : Int)) = false := by rw [decide_eq_false_iff_not]; omega
    have hkP : ((d : Int) < (m : Int)) = False := by rw [eq_iff_iff]; exact ⟨fun h => by omega, fun h => h.elim⟩
    have EX : Hid (B.live1 l d = false) := by show _ = _; unfold B.live1; rw [List.getD, List.getElem?_eq_none (by rw [← HM.out]; omega)]; rfl
    clear hlt
    go_enter Try.func77, Try.ntmps77
    go_wp2
    go_ret
    exact ⟨ret_bool EX.out.symm, rfl⟩
theorem zero_sin : Sup.zero.In := ⟨⟨by decide, by decide⟩, Geo.zero_in, Geo.zero_in, ⟨by decide, by decide⟩, ⟨by decide, by decide⟩, ⟨by decide, by decide⟩⟩
theorem Geo.nat {g : Geo} (h : g.ok = true ∨ g = Geo.zero) : g = ⟨(g.l.toNat : Int), (g.d.toNat : Int), (g.c.toNat : Int)⟩ := by
  rcases h with h | h
  · obtain ⟨h1, h2, h3⟩ := (Geo.ok_iff g).1 h
    rw [Geo.eq_iff]
    refine ⟨?_, ?_, ?_⟩ <;> dsimp only <;> omega
  · rw [h]; rfl
theorem Sup.nat {s : Sup} (h : s.ok = true) : s = ⟨(s.gen.toNat : Int), ⟨(s.a.l.toNat : Int), (s.a.d.toNat : Int), (s.a.c.toNat : Int)⟩, ⟨(s.b.l.toNat : Int), (s.b.d.toNat : Int), (s.b.c.toNat : Int)⟩, s.run, (s.win.toNat : Int), (s.ep.toNat : Int), (s.out.toNat : Int)⟩ := by
  obtain ⟨h1, h2, h3, h4, h5⟩ := (Sup.ok_iff s).1 h
  obtain ⟨k1, k2, k3, k4⟩ := Sup.ok_more h
  rw [← Geo.nat (.inl k1), ← Geo.nat k2]
  obtain ⟨gen, a, b, run, win, ep, out⟩ := s
  simp only [Sup.mk.injEq, true_and]
  dsimp only at *
  omega
theorem sencode_ok (s : Sup) (w : World) (hk : s.ok = true) :
    Calls Try.prog 75 #[sv s] w fun e w' => ∃ v, e = .returned (.tuple #[v, .int .i64 0]) ∧ Own w' w.heap.size v s.enc ∧ Below w.heap.size w w' :=
  sencode_yes _ _ _ _ _ _ _ _ _ _ _ w s (Sup.nat hk) hk
/-- the slot of a generation -/
def slotN (s : Sup) : Nat := if s.gen.tmod 2 = 1 then 1 else 0
attribute [local irreducible] Go.Calls Byt Own Parts PA BA Bools OwnD OwnT
theorem store_no (g : Nat) (vv : Value) (s : Sup) (w : World) (hin : s.In) (hk : s.ok = false) :
    Calls Try.prog 36 #[.pointer (some ⟨g, 0, none⟩), vv, sv s] w fun r w' => r = .returned (.int .i64 1) ∧ Below w.heap.size w w' := by
  have HE := fun W => sencode_no s W hin hk
  unfold sv at HE ⊢
  have HE := Lib.hid HE
  clear hk hin
  go_enter Try.func36, Try.ntmps36
  go_wp2_with fail
  refine Calls.mono (HE.out _) ?_
  rintro r w2 ⟨rfl, b2⟩
  go_wp2
  go_ret
  exact ⟨rfl, belA1 (belT (belA2 (belR _)) b2)⟩
/-- the closure: a sector written -/
theorem clo_any (w : World) (base g : Nat) (lv : Value) (hs : List (Nat × Value)) (b : B.Bn) (d a bx ax xx : Nat) (xv : Value) (x : List Nat) (h : IsBench w base g lv hs b) (hx : Byt w xv x) (hap : ∀ y, xv.ownBlock = some y → ¬ ofB g lv hs y) (hb0 : base ≤ w.heap.size)
    (hsz : ∀ dk ∈ b.ds, dk.p.length ≤ 1000001) (hw : 0 ≤ b.writes ∧ b.writes ≤ 1000000100) (hl : -1 ≤ b.left ∧ b.left ≤ 1000)
    (c1 : w.cell? ⟨bx, 0, none⟩ = some (.pointer (some ⟨g, 0, none⟩))) (c2 : w.cell? ⟨ax, 0, none⟩ = some (.int .i64 (a : Int))) (c3 : w.cell? ⟨xx, 0, none⟩ = some xv) :
    Calls Try.prog 76 #[.int .i64 (d : Int), .pointer (some ⟨bx, 0, none⟩), .pointer (some ⟨ax, 0, none⟩), .pointer (some ⟨xx, 0, none⟩)] w fun e w' => e = .returned (.int .i64 (B.writeE b (d : Int) (a : Int) x)) ∧ ∃ hs', IsBench w' base g lv hs' (B.write b (d : Int) (a : Int) x) ∧ Fr (ofB g lv hs) w w' ∧ ∀ y, ofB g lv hs' y → ofB g lv hs y ∨ w.heap.size ≤ y := by
  have HW := Lib.hid (bwrite_any w base g lv hs b (d : Int) (a : Int) xv x h hx hap hb0 (fun dk hd => by have := hsz dk hd; omega) (by omega) (by omega))
  clear h hx hap hb0 hsz hw hl
  go_enter Try.func76, Try.ntmps76
  go_wp2_with fail
  refine Calls.mono HW.out ?_
  rintro r w2 ⟨rfl, R⟩
  have R := Lib.hid R
  go_wp2
  go_ret
  exact ⟨rfl, R.out⟩
theorem call_clo (args : Array Value) (w : World) : (callFunc 76 args).run Try.prog w = .ok (.enter 76 args) w := by
  simp [callFunc, go_sem, Try.func76, Try.f76]
theorem call_flush (args : Array Value) (w : World) : (callFunc 58 args).run Try.prog w = .ok (.enter 58 args) w := by
  simp [callFunc, go_sem, Try.func58, Try.f58]
/-- a bench in the midst of a call that began at w4 -/
def SX (w4 : World) (base g : Nat) (lv : Value) (hs : List (Nat × Value)) (X : World) (c : B.Bn) : Prop :=
  ∃ hs', IsBench X base g lv hs' c ∧ Fr (ofB g lv hs) w4 X ∧ ∀ y, ofB g lv hs' y → ofB g lv hs y ∨ w4.heap.size ≤ y
theorem SX.next {w4 : World} {base g : Nat} {lv : Value} {hs hs1 hs2 : List (Nat × Value)} {X Y : World} {c : B.Bn} (hF : Fr (ofB g lv hs) w4 X) (hq : ∀ y, ofB g lv hs1 y → ofB g lv hs y ∨ w4.heap.size ≤ y) (I : IsBench Y base g lv hs2 c) (F : Fr (ofB g lv hs1) X Y) (q : ∀ y, ofB g lv hs2 y → ofB g lv hs1 y ∨ X.heap.size ≤ y) : SX w4 base g lv hs Y c :=
  ⟨hs2, I, hF.transN F hq, fun y hy => by
    rcases q y hy with h | h
    · exact hq y h
    · exact .inr (Nat.le_trans hF.size h)⟩
theorem SX.up {w4 : World} {base g : Nat} {lv : Value} {hs : List (Nat × Value)} {X Y : World} {c : B.Bn} (h : SX w4 base g lv hs X c) (k : Below X.heap.size X Y) : SX w4 base g lv hs Y c := by
  obtain ⟨hs1, I, F, q⟩ := h
  exact ⟨hs1, I.up k, F.trans (Fr.of_below k), q⟩
theorem store_yes (w : World) (base g : Nat) (lv : Value) (hs : List (Nat × Value)) (b : B.Bn) (vv : Value) (lvs : List Bool) (s : Sup) (h : IsBench w base g lv hs b) (hU : B.Pw b) (hb0 : base ≤ w.heap.size) (hL : BA (ofB g lv hs) w vv lvs) (hk : s.ok = true)
    (hn : b.ds.length ≤ 8) (hp : ∀ d ∈ b.ds, d.p.length ≤ 1000000) (hw : 0 ≤ b.writes ∧ b.writes ≤ 1000000000) :
    Calls Try.prog 36 #[.pointer (some ⟨g, 0, none⟩), vv, sv s] w fun r w' => r = .returned (.int .i64 0) ∧ ∃ hs', IsBench w' base g lv hs' (B.storeB b lvs (slotN s) s.enc) ∧ Fr (ofB g lv hs) w w' ∧ ∀ y, ofB g lv hs' y → ofB g lv hs y ∨ w.heap.size ≤ y := by
  have HE := fun W => sencode_ok s W hk
  obtain ⟨ev, hev⟩ : ∃ ev, ev = s.enc := ⟨_, rfl⟩
  have ev32 : ev.length = 32 := by rw [hev]; exact s.enc_len
  have ev8 : ∀ c ∈ ev, c < 256 := by rw [hev]; exact s.enc_byte
  rw [← hev] at HE
  unfold sv at HE ⊢
  have HE := Lib.hid HE
  obtain ⟨a, ha⟩ : ∃ a, a = slotN s := ⟨_, rfl⟩
  have ha2 : a < 2 := by rw [ha]; unfold slotN; split <;> decide
  have HB := Lib.hid h
  have HU := Lib.hid hU
  have HA := Lib.hid ha
  have HV := Lib.hid hL
  have HEV := Lib.hid hev
  have E32 := Lib.hid ev32
  have E8 := Lib.hid ev8
  have HA2 := Lib.hid ha2
  have HLT := Lib.hid h.lts
  clear h hU hL hk hev ev32 ev8 ha ha2
  go_enter Try.func36, Try.ntmps36
  go_wp2_with fail
  refine Calls.mono (HE.out _) ?_
  rintro r w2 ⟨xv, rfl, O2, b2⟩
  obtain ⟨ao, cap, rfl, hc5, hc6⟩ := O2.byt.shapeN E32.out
  have hs2 : w.heap.size + 2 ≤ w2.heap.size := by have := b2.size; simp at this; omega
  have hcb : w2.cell? ⟨w.heap.size, 0, none⟩ = some (.pointer (some ⟨g, 0, none⟩)) := by
    rw [b2.cell (p := ⟨w.heap.size, 0, none⟩) (by simp; omega)]
    simp
  have hcs : w2.cell? ⟨w.heap.size + 1, 0, none⟩ = some (.int .i64 s.gen) := by
    rw [b2.cell (p := ⟨w.heap.size + 1, 0, none⟩) (by simp)]
    simp
  have HCB := Lib.hid hcb
  have B2 := belT (belA2 (belR w)) b2
  have O2 := Lib.hid O2
  clear b2 hc5 hc6
  go_upto_region 5 with (fail)
  obtain ⟨w3, hw3⟩ : ∃ w3, w3 = (w2.alloc (.cells #[.slice ao 32 cap] 48)).alloc (.cells #[.int .i64 0] 3) := ⟨_, rfl⟩
  have hs3 : w3.heap.size = w2.heap.size + 2 := by rw [hw3]; simp
  have b3 : Below w2.heap.size w2 w3 := by rw [hw3]; exact belA2 (belR _)
  have hc3 : w3.cell? ⟨w.heap.size + 1, 0, none⟩ = some (.int .i64 s.gen) := (b3.cell (p := ⟨w.heap.size + 1, 0, none⟩) (by show w.heap.size + 1 < _; omega)).trans hcs
  have hcb3 : w3.cell? ⟨w.heap.size, 0, none⟩ = some (.pointer (some ⟨g, 0, none⟩)) := (b3.cell (p := ⟨w.heap.size, 0, none⟩) (by show w.heap.size < _; omega)).trans hcb
  have hcx3 : w3.cell? ⟨w2.heap.size, 0, none⟩ = some (.slice ao 32 cap) := by
    rw [hw3]; simp
  have hca3 : w3.cell? ⟨w2.heap.size + 1, 0, none⟩ = some (.int .i64 0) := by
    rw [hw3]; simp
  have hfa3 : w3.frozen? ⟨w2.heap.size + 1, 0, none⟩ = false := by
    rw [hw3]; simp
  rw [← hw3]
  have B3 := belT B2 b3
  have O3 := Lib.hid (O2.out.up b3)
  clear hw3 hcs hcb
  go_upto_if 25 with (fail)
  go_cut [] from 25 to 25 (fun X => Hid (X.cell? ⟨w.heap.size, 0, none⟩ = some (.pointer (some ⟨g, 0, none⟩)) ∧ X.cell? ⟨w2.heap.size, 0, none⟩ = some (.slice ao 32 cap) ∧ X.cell? ⟨w2.heap.size + 1, 0, none⟩ = some (.int .i64 (a : Int)) ∧ Fr (fun y => y = w2.heap.size + 1) w3 X))
  case first =>
    by_cases hp2 : s.gen.tmod 2 = 1
    · have hq : (s.gen.tmod 2 == 1) = true := by simp [hp2]
      have HR : Hid ((w3.setCell ⟨w2.heap.size + 1, 0, none⟩ (.int .i64 1)).cell? ⟨w.heap.size, 0, none⟩ = some (.pointer (some ⟨g, 0, none⟩)) ∧ (w3.setCell ⟨w2.heap.size + 1, 0, none⟩ (.int .i64 1)).cell? ⟨w2.heap.size, 0, none⟩ = some (.slice ao 32 cap) ∧ (w3.setCell ⟨w2.heap.size + 1, 0, none⟩ (.int .i64 1)).cell? ⟨w2.heap.size + 1, 0, none⟩ = some (.int .i64 (a : Int)) ∧ Fr (fun y => y = w2.heap.size + 1) w3 (w3.setCell ⟨w2.heap.size + 1, 0, none⟩ (.int .i64 1))) := by
        refine Lib.hid ⟨?_, ?_, ?_, (Fr.cell ⟨w2.heap.size + 1, 0, none⟩ _).mono (fun _ h => h)⟩
        · exact (World.cell?_setCell_other _ _ _ _ (by intro e; have := congrArg Addr.block e; simp at this; omega)).trans hcb3
        · exact (World.cell?_setCell_other _ _ _ _ (by intro e; have := congrArg Addr.block e; simp at this)).trans hcx3
        · rw [World.cell?_setCell_same _ _ _ hca3, HA.out]
          unfold slotN
          rw [if_pos hp2]; rfl
      clear hp2
      go_wp2_with fail
      go_meet
      case rel => exact HR
    · have hq : (s.gen.tmod 2 == 1) = false := by simp [hp2]
      have HR : Hid (w3.cell? ⟨w.heap.size, 0, none⟩ = some (.pointer (some ⟨g, 0, none⟩)) ∧ w3.cell? ⟨w2.heap.size, 0, none⟩ = some (.slice ao 32 cap) ∧ w3.cell? ⟨w2.heap.size + 1, 0, none⟩ = some (.int .i64 (a : Int)) ∧ Fr (fun y => y = w2.heap.size + 1) w3 w3) := by
        refine Lib.hid ⟨hcb3, hcx3, ?_, Fr.refl _ _⟩
        rw [hca3, HA.out]
        unfold slotN
        rw [if_neg hp2]; rfl
      clear hp2
      go_wp2_with fail
      go_meet
      case rel => exact HR
  obtain ⟨k1, k2, k3, k4⟩ := hcut.out
  have O5 := Lib.hid (O3.out.byt.fr k4 (fun y hy e => by have := O3.out.lt y hy; have h2 := O2.out.lt y hy; omega))
  have hs5 : w3.heap.size ≤ wc.heap.size := k4.size
  obtain ⟨w4, hw4⟩ : ∃ w4, w4 = wc.alloc (.cells #[.func (Fn.func 76) #[] #[.pointer (some ⟨w.heap.size, 0, none⟩), .pointer (some ⟨w2.heap.size + 1, 0, none⟩), .pointer (some ⟨w2.heap.size, 0, none⟩)], .func (Fn.func 58) #[.pointer (some ⟨g, 0, none⟩)] #[]] 46) := ⟨_, rfl⟩
  have hs4 : w4.heap.size = wc.heap.size + 1 := by rw [hw4]; simp
  have b4 : Below wc.heap.size wc w4 := by rw [hw4]; exact belA1 (belR _)
  have CB : Hid (∀ X, Fr (ofB g lv hs) w4 X → X.cell? ⟨w.heap.size, 0, none⟩ = some (.pointer (some ⟨g, 0, none⟩)) ∧ X.cell? ⟨w2.heap.size, 0, none⟩ = some (.slice ao 32 cap) ∧ X.cell? ⟨w2.heap.size + 1, 0, none⟩ = some (.int .i64 (a : Int)) ∧ X.cell? ⟨wc.heap.size, 0, none⟩ = some (.func (Fn.func 76) #[] #[.pointer (some ⟨w.heap.size, 0, none⟩), .pointer (some ⟨w2.heap.size + 1, 0, none⟩), .pointer (some ⟨w2.heap.size, 0, none⟩)]) ∧ X.cell? ⟨wc.heap.size, 1, none⟩ = some (.func (Fn.func 58) #[.pointer (some ⟨g, 0, none⟩)] #[]) ∧ Byt X (.slice ao 32 cap) ev) := by
    show ∀ X, _
    intro X hX
    have no : ∀ y, w.heap.size ≤ y → ¬ ofB g lv hs y := fun y hy h => by have := HLT.out y h; omega
    have kc : ∀ (y o : Nat), w.heap.size ≤ y → y < w4.heap.size → X.cell? ⟨y, o, none⟩ = w4.cell? ⟨y, o, none⟩ := fun y o h1 h2 => World.cell?_of_block (hX.block y h2 (no y h1))
    refine ⟨?_, ?_, ?_, ?_, ?_, ?_⟩
    · rw [kc _ _ (by omega) (by omega), b4.cell (p := ⟨w.heap.size, 0, none⟩) (by show w.heap.size < _; omega)]; exact k1
    · rw [kc _ _ (by omega) (by omega), b4.cell (p := ⟨w2.heap.size, 0, none⟩) (by show w2.heap.size < _; omega)]; exact k2
    · rw [kc _ _ (by omega) (by omega), b4.cell (p := ⟨w2.heap.size + 1, 0, none⟩) (by show w2.heap.size + 1 < _; omega)]; exact k3
    · rw [kc _ _ (by omega) (by omega), hw4]; simp
    · rw [kc _ _ (by omega) (by omega), hw4]; simp
    · exact (O5.out.up b4).fr hX (fun y hy => no y (by have := O2.out.ge y hy; simp at this; omega))
  have BW4 : Hid (Below w.heap.size w w4) := Lib.hid (belT (Fr.below B3 k4 (by omega) (fun y e => by show w.heap.size ≤ y; rw [e]; omega)) b4)
  have S0 : Hid (SX w4 base g lv hs w4 b) := ⟨hs, HB.out.up BW4.out, Fr.refl _ _, fun y hy => .inl hy⟩
  have V4 := Lib.hid (HV.out.up BW4.out)
  have XGE : Hid (∀ y, (Value.slice ao 32 cap).ownBlock = some y → w.heap.size ≤ y ∧ y < w4.heap.size) := Lib.hid (fun y hy => ⟨by have := O2.out.ge y hy; simp at this; omega, by have := O2.out.lt y hy; omega⟩)
  go_wp2_with fail
  rw [← hw4]
  obtain ⟨N, hN⟩ : ∃ N, N = b.ds.length := ⟨_, rfl⟩
  have HN := Lib.hid hN
  have hn8 : N ≤ 8 := by omega
  clear hw4 k1 k2 k3 k4 hN hcb3 hcx3 hca3 hfa3 hc3
  go_loopw [31] (fun jv X => ∃ j : Nat, j ≤ 2 ∧ jv = .int .i64 j ∧ Hid (SX w4 base g lv hs X (if j = 0 then b else if j = 1 then B.wS b lvs a ev N else B.flW (B.wS b lvs a ev N) lvs N))) (fun jv _ => 2 - (intOf jv).toNat)
  case atStart => exact ⟨0, Nat.zero_le _, rfl, S0⟩
  case round =>
    obtain ⟨j, hj2, rfl, HS⟩ := hrel
    have hj : j = 0 ∨ j = 1 ∨ j = 2 := by omega
    rcases hj with rfl | rfl | rfl
    · obtain ⟨hs1, I1, F1, q1⟩ := HS.out
      rw [if_pos rfl] at I1
      obtain ⟨k1, k2, k3, k4, k5, k6⟩ := CB.out _ F1
      have HLN := blen_any _ _ _ _ _ _ I1
      rw [← HN.out] at HLN
      have HLN := Lib.hid HLN
      have S1 : Hid (SX w4 base g lv hs wr b) := ⟨hs1, I1, F1, q1⟩
      clear I1 F1 q1
      go_wp2_with fail
      refine Calls.mono HLN.out ?_
      rintro r w5 ⟨rfl, rfl⟩
      clear k1 k2 k3 k4 k5 k6
      go_wp2
      go_loopw [37] (fun kv Y => ∃ k : Nat, k ≤ N ∧ kv = .int .i64 k ∧ Hid (SX w4 base g lv hs Y (B.wS b lvs a ev k))) (fun kv _ => N - (intOf kv).toNat)
      case atStart => exact ⟨0, Nat.zero_le _, rfl, S1⟩
      case round =>
        obtain ⟨k, hkN, rfl, HJ⟩ := hrel
        by_cases hlt : k < N
        · have hk1 : IntKind.i64.wrap ((k : Int) + 1) = ((k + 1 : Nat) : Int) := by rw [IntKind.wrap_i64]; omega
          have hkI : (k : Int) < (N : Int) := by omega
          have hk0 : (0 : Int) ≤ (k : Int) := by omega
          have HLT2 := Lib.hid hlt
          obtain ⟨hs6, I6, F6, q6⟩ := HJ.out
          obtain ⟨c1, c2, c3, _, _, c6⟩ := CB.out _ F6
          have V6 := V4.out.step F6 q6
          have HIS := Lib.hid (slis_any vv lvs k wr V6.bools (by omega))
          obtain ⟨u1, u2, u3, u4⟩ := B.wS_spec HU.out lvs (a := a) (x := ev) (by have := HA2.out; omega) E32.out E8.out k (by rw [← HN.out]; omega)
          have hp6 := B.wS_p HU.out lvs (a := a) (x := ev) (by have := HA2.out; omega) E32.out E8.out hp (m := k) (by rw [← HN.out]; omega)
          have hcn := B.cntS_le b lvs k
          have HCL := Lib.hid (clo_any wr base g lv hs6 (B.wS b lvs a ev k) k a w.heap.size (w2.heap.size + 1) w2.heap.size _ ev I6 c6 (fun y hy h => by have := XGE.out y hy; rcases q6 y h with h | h; (have := HLT.out y h; omega); omega) (by have := F6.size; omega) (fun dk hd => by have := hp6 dk hd; omega) (by rw [u2]; omega) (by have := u1.left; omega) c1 c3 c2)
          have HWE := Lib.hid (u1.write1 (a := a) (x := ev) (m := k) (by rw [u3, ← HN.out]; exact hlt) (by have := HA2.out; omega) E32.out).1
          clear hlt I6 c1 c2 c3 c6 V6 u1 u2 u3 u4 hp6 hcn
          rw [HWE.out] at HCL
          have HCL2 : Hid (Calls Try.prog 76 #[.int .i64 (k : Int), .pointer (some ⟨w.heap.size, 0, none⟩), .pointer (some ⟨w2.heap.size + 1, 0, none⟩), .pointer (some ⟨w2.heap.size, 0, none⟩)] wr fun e w' => e = .returned (.int .i64 (if B.failB (B.wS b lvs a ev k) k then 5 else 0)) ∧ SX w4 base g lv hs w' (B.write (B.wS b lvs a ev k) (k : Int) (a : Int) ev)) := by
            refine Calls.mono HCL.out ?_
            rintro e w' ⟨rfl, hs7, I7, F7, q7⟩
            exact ⟨rfl, SX.next F6 q6 I7 F7 q7⟩
          obtain ⟨fb, hfb⟩ : ∃ fb, fb = B.failB (B.wS b lvs a ev k) k := ⟨_, rfl⟩
          rw [← hfb] at HCL2
          obtain ⟨lk, hlk⟩ : ∃ lk, lk = B.live1 lvs k := ⟨_, rfl⟩
          rw [← hlk] at HIS
          have HNX : Hid (B.wS b lvs a ev (k + 1) = if lk = true then B.write (B.wS b lvs a ev k) (k : Int) (a : Int) ev else B.wS b lvs a ev k) := by rw [hlk]; exact Lib.hid rfl
          clear hfb hlk HCL HWE F6 q6
          go_wp2_with fail
          refine Calls.mono HIS.out ?_
          rintro r w6 ⟨rfl, rfl⟩
          cases lk with
          | false =>
            have HJ2 : Hid (SX w4 base g lv hs wr (B.wS b lvs a ev (k + 1))) := by
              rw [HNX.out, if_neg (by decide)]
              exact HJ
            clear HJ
            go_wp2
            go_roundw
            case rel => exact ⟨k + 1, HLT2.out, by go_num, HJ2⟩
            case measure => have := HLT2.out; simp [intOf]; omega
          | true =>
            have hfn := call_clo
            cases fb with
            | false =>
              have HC3 := HCL2.out
              rw [if_neg (by decide)] at HC3
              have HC3 := Lib.hid HC3
              clear HCL2 HJ
              go_wp2_with fail
              refine Calls.mono HC3.out ?_
              rintro r w7 ⟨rfl, S7⟩
              have HJ2 : Hid (SX w4 base g lv hs w7 (B.wS b lvs a ev (k + 1))) := by
                rw [HNX.out, if_pos trivial]
                exact S7
              clear S7
              go_wp2
              go_roundw
              case rel => exact ⟨k + 1, HLT2.out, by go_num, HJ2⟩
              case measure => have := HLT2.out; simp [intOf]; omega
            | true =>
              have HC3 := HCL2.out
              rw [if_pos rfl] at HC3
              have HC3 := Lib.hid HC3
              clear HCL2 HJ
              go_wp2_with fail
              refine Calls.mono HC3.out ?_
              rintro r w7 ⟨rfl, S7⟩
              have HJ2 : Hid (SX w4 base g lv hs w7 (B.wS b lvs a ev (k + 1))) := by
                rw [HNX.out, if_pos trivial]
                exact S7
              clear S7
              go_wp2
              go_roundw
              case rel => exact ⟨k + 1, HLT2.out, by go_num, HJ2⟩
              case measure => have := HLT2.out; simp [intOf]; omega
        · have hke : k = N := by omega
          subst hke
          have HJ2 : Hid (SX w4 base g lv hs wr (if 1 = 0 then b else if 1 = 1 then B.wS b lvs a ev k else B.flW (B.wS b lvs a ev k) lvs k)) := by rw [if_neg (by decide), if_pos rfl]; exact HJ
          clear HJ
          go_wp2
          go_roundw
          case rel => exact ⟨1, by decide, by go_num, HJ2⟩
          case measure => simp [intOf]
    · obtain ⟨hs1, I1, F1, q1⟩ := HS.out
      rw [if_neg (by decide), if_pos rfl] at I1
      obtain ⟨k1, k2, k3, k4, k5, k6⟩ := CB.out _ F1
      obtain ⟨u1, u2, u3, u4⟩ := B.wS_spec HU.out lvs (a := a) (x := ev) (by have := HA2.out; omega) E32.out E8.out N (by rw [← HN.out]; omega)
      have HLN := blen_any _ _ _ _ _ _ I1
      rw [u3, ← HN.out] at HLN
      have HLN := Lib.hid HLN
      have HU1 := Lib.hid u1
      have HU3 := Lib.hid u3
      have S1 : Hid (SX w4 base g lv hs wr (B.wS b lvs a ev N)) := ⟨hs1, I1, F1, q1⟩
      clear I1 F1 q1 u1 u2 u3 u4
      go_wp2_with fail
      refine Calls.mono HLN.out ?_
      rintro r w5 ⟨rfl, rfl⟩
      clear k1 k2 k3 k4 k5 k6
      go_wp2
      go_loopw [37] (fun kv Y => ∃ k : Nat, k ≤ N ∧ kv = .int .i64 k ∧ Hid (SX w4 base g lv hs Y (B.flW (B.wS b lvs a ev N) lvs k))) (fun kv _ => N - (intOf kv).toNat)
      case atStart => exact ⟨0, Nat.zero_le _, rfl, S1⟩
      case round =>
        obtain ⟨k, hkN, rfl, HJ⟩ := hrel
        by_cases hlt : k < N
        · have hk1 : IntKind.i64.wrap ((k : Int) + 1) = ((k + 1 : Nat) : Int) := by rw [IntKind.wrap_i64]; omega
          have hkI : (k : Int) < (N : Int) := by omega
          have hk0 : (0 : Int) ≤ (k : Int) := by omega
          have HLT2 := Lib.hid hlt
          obtain ⟨hs6, I6, F6, q6⟩ := HJ.out
          have V6 := V4.out.step F6 q6
          have HIS := Lib.hid (slis_any vv lvs k wr V6.bools (by omega))
          obtain ⟨u1, u2, u3, u4⟩ := B.fS_spec HU1.out lvs k (by rw [HU3.out, ← HN.out]; omega)
          have HCL := Lib.hid (bflush_yes wr base g lv hs6 (B.flW (B.wS b lvs a ev N) lvs k) k I6 (by rw [u3, HU3.out, ← HN.out]; exact hlt) u1.down)
          clear hlt I6 V6 u1 u2 u3 u4
          have HCL2 : Hid (Calls Try.prog 58 #[.pointer (some ⟨g, 0, none⟩), .int .i64 (k : Int)] wr fun e w' => e = .returned (.int .i64 (if (B.dk (B.flW (B.wS b lvs a ev N) lvs k) (k : Int)).f then 5 else 0)) ∧ SX w4 base g lv hs w' { B.flW (B.wS b lvs a ev N) lvs k with ds := (B.flW (B.wS b lvs a ev N) lvs k).ds.set k (D.flushed (B.dk (B.flW (B.wS b lvs a ev N) lvs k) (k : Int))) }) := by
            refine Calls.mono HCL.out ?_
            rintro e w' ⟨rfl, hs7, I7, F7, q7⟩
            exact ⟨rfl, SX.next F6 q6 I7 F7 q7⟩
          obtain ⟨fb, hfb⟩ : ∃ fb, fb = (B.dk (B.flW (B.wS b lvs a ev N) lvs k) (k : Int)).f := ⟨_, rfl⟩
          rw [← hfb] at HCL2
          obtain ⟨lk, hlk⟩ : ∃ lk, lk = B.live1 lvs k := ⟨_, rfl⟩
          rw [← hlk] at HIS
          have HNX : Hid (B.flW (B.wS b lvs a ev N) lvs (k + 1) = if lk = true then { B.flW (B.wS b lvs a ev N) lvs k with ds := (B.flW (B.wS b lvs a ev N) lvs k).ds.set k (D.flushed (B.dk (B.flW (B.wS b lvs a ev N) lvs k) (k : Int))) } else B.flW (B.wS b lvs a ev N) lvs k) := by rw [hlk]; exact Lib.hid rfl
          clear hfb hlk HCL F6 q6
          go_wp2_with fail
          refine Calls.mono HIS.out ?_
          rintro r w6 ⟨rfl, rfl⟩
          cases lk with
          | false =>
            have HJ2 : Hid (SX w4 base g lv hs wr (B.flW (B.wS b lvs a ev N) lvs (k + 1))) := by
              rw [HNX.out, if_neg (by decide)]
              exact HJ
            clear HJ
            go_wp2
            go_roundw
            case rel => exact ⟨k + 1, HLT2.out, by go_num, HJ2⟩
            case measure => have := HLT2.out; simp [intOf]; omega
          | true =>
            have hfn := call_flush
            cases fb with
            | false =>
              have HC3 := HCL2.out
              rw [if_neg (by decide)] at HC3
              have HC3 := Lib.hid HC3
              clear HCL2 HJ
              go_wp2_with fail
              refine Calls.mono HC3.out ?_
              rintro r w7 ⟨rfl, S7⟩
              have HJ2 : Hid (SX w4 base g lv hs w7 (B.flW (B.wS b lvs a ev N) lvs (k + 1))) := by
                rw [HNX.out, if_pos trivial]
                exact S7
              clear S7
              go_wp2
              go_roundw
              case rel => exact ⟨k + 1, HLT2.out, by go_num, HJ2⟩
              case measure => have := HLT2.out; simp [intOf]; omega
            | true =>
              have HC3 := HCL2.out
              rw [if_pos rfl] at HC3
              have HC3 := Lib.hid HC3
              clear HCL2 HJ
              go_wp2_with fail
              refine Calls.mono HC3.out ?_
              rintro r w7 ⟨rfl, S7⟩
              have HJ2 : Hid (SX w4 base g lv hs w7 (B.flW (B.wS b lvs a ev N) lvs (k + 1))) := by
                rw [HNX.out, if_pos trivial]
                exact S7
              clear S7
              go_wp2
              go_roundw
              case rel => exact ⟨k + 1, HLT2.out, by go_num, HJ2⟩
              case measure => have := HLT2.out; simp [intOf]; omega
        · have hke : k = N := by omega
          subst hke
          have HJ2 : Hid (SX w4 base g lv hs wr (if 2 = 0 then b else if 2 = 1 then B.wS b lvs a ev k else B.flW (B.wS b lvs a ev k) lvs k)) := by rw [if_neg (by decide), if_neg (by decide)]; exact HJ
          clear HJ
          go_wp2
          go_roundw
          case rel => exact ⟨2, by decide, by go_num, HJ2⟩
          case measure => simp [intOf]
    · obtain ⟨hs1, I1, F1, q1⟩ := HS.out
      rw [if_neg (by decide), if_neg (by decide)] at I1
      have FE := (Fr.of_below (S := ofB g lv hs) (BW4.out)).trans F1
      have HR : Hid (∃ hs', IsBench wr base g lv hs' (B.storeB b lvs a ev) ∧ Fr (ofB g lv hs) w wr ∧ ∀ y, ofB g lv hs' y → ofB g lv hs y ∨ w.heap.size ≤ y) := by
        refine ⟨hs1, ?_, FE, fun y hy => ?_⟩
        · unfold B.storeB; rw [← HN.out]; exact I1
        · rcases q1 y hy with h | h
          · exact .inl h
          · exact .inr (by have := BW4.out.size; omega)
      clear I1 F1 q1 FE HS
      go_wp2
      go_ret
      refine ⟨rfl, ?_⟩
      have := HR.out
      rw [HA.out, HEV.out] at this
      exact this
end Go.Proofs.Ytenjpldinnbcbaa
