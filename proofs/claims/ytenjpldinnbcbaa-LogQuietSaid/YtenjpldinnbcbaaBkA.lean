/- Merged: BkP, BkW, BkA. -/
import Derived.Test.YtenjpldinnbcbaaBen
import Derived.Test.YtenjpldinnbcbaaCrcA
import Derived.Test.YtenjpldinnbcbaaRowF
import Derived.Test.YtenjpldinnbcbaaOpen
import Derived.Test.YtenjpldinnbcbaaOwnD
/- The plain law of a window kept: what Put does to a bench whose disks have not failed. -/

namespace Go.Proofs.Ytenjpldinnbcbaa.B
set_option linter.unusedVariables false
set_option linter.unusedSimpArgs false

/-- power, any number of writes, no disk failed -/
structure Up (b : Bn) : Prop where
  down : b.down = false
  left : b.left = -1
  fine : ∀ d ∈ b.ds, d.f = false
  ok : ∀ d ∈ b.ds, D.Ok d
def live1 (lv : List Bool) (i : Nat) : Bool := lv.getD i false
def wrD (d : D.Dk) (all : List (List Nat)) : Nat → D.Dk
  | 0 => d
  | k + 1 => D.write (wrD d all k) (6 + k) (all.getD k [])
def wrk (b : Bn) (m : Nat) (all : List (List Nat)) : Nat → Bn
  | 0 => b
  | k + 1 => write (wrk b m all k) (m : Int) ((6 + k : Nat) : Int) (all.getD k [])
def putW (b : Bn) (lv : List Bool) (all : List (List Nat)) : Nat → Bn
  | 0 => b
  | m + 1 => if live1 lv m then wrk (putW b lv all m) m all all.length else putW b lv all m
def flW (b : Bn) (lv : List Bool) : Nat → Bn
  | 0 => b
  | m + 1 => if live1 lv m then { flW b lv m with ds := (flW b lv m).ds.set m (D.flushed (dk (flW b lv m) (m : Int))) } else flW b lv m
def putB (b : Bn) (lv : List Bool) (all : List (List Nat)) : Bn := flW (putW b lv all b.ds.length) lv b.ds.length
theorem wrD_f (d : D.Dk) (all : List (List Nat)) (k : Nat) : (wrD d all k).f = d.f := by
  induction k with
  | zero => rfl
  | succ k ih => show (D.write _ _ _).f = _; rw [← ih]; rfl
theorem wrD_p (d : D.Dk) (all : List (List Nat)) (k : Nat) : (wrD d all k).p.length = d.p.length + k := by
  induction k with
  | zero => rfl
  | succ k ih => show ((wrD d all k).p ++ [_]).length = _; rw [List.length_append, ih]; rfl
theorem wrD_ok {d : D.Dk} (h : D.Ok d) {all : List (List Nat)} (h32 : ∀ x ∈ all, x.length = 32) (h8 : ∀ x ∈ all, ∀ y ∈ x, y < 256) : ∀ k, k ≤ all.length → 6 + k ≤ 52 → D.Ok (wrD d all k) := by
  intro k
  induction k with
  | zero => intro _ _; exact h
  | succ k ih =>
    intro hk h52
    have hg : all.getD k [] ∈ all := by rw [show all.getD k [] = all[k] by simp [List.getD, show k < all.length by omega]]; exact List.getElem_mem _
    exact D.write_ok (ih (by omega) (by omega)) (by omega) (h32 _ hg) (h8 _ hg)
theorem wrD_look (d : D.Dk) (all : List (List Nat)) (k a : Nat) : D.look (wrD d all k) a = if 6 ≤ a ∧ a < 6 + k then all.getD (a - 6) [] else D.look d a := by
  induction k with
  | zero => rw [if_neg (by omega)]; rfl
  | succ k ih =>
    show D.look (D.write (wrD d all k) (6 + k) (all.getD k [])) a = _
    by_cases h : a = 6 + k
    · subst h
      rw [D.look_write_same, if_pos (by omega)]
      congr 1
      omega
    · rw [D.look_write_other _ _ (fun e => h e.symm), ih]
      by_cases h2 : 6 ≤ a ∧ a < 6 + k
      · rw [if_pos h2, if_pos (by omega)]
      · rw [if_neg h2, if_neg (by omega)]
theorem Up.write {b : Bn} (h : Up b) {m a : Nat} {x : List Nat} (hm : m < b.ds.length) (ha : a < 52) (hx : x.length = 32) :
    writeE b (m : Int) (a : Int) x = 0 ∧ write b (m : Int) (a : Int) x = { b with writes := b.writes + 1, ds := b.ds.set m (D.write (b.ds.getD m D.blank) a x) } := by
  have hi := List.getElem?_eq_getElem hm
  have hf := h.fine _ (List.getElem_mem hm)
  obtain ⟨e1, e2⟩ := write_ok h.down hi hf ha hx (by rw [h.left]; decide)
  refine ⟨e1, ?_⟩
  rw [e2]
  have e3 : b.ds.getD m D.blank = b.ds[m] := by simp [List.getD, hm]
  rw [e3]
  unfold counted
  rw [h.left]
  simp [h.left]
theorem wrk_spec {b : Bn} (h : Up b) {m : Nat} (hm : m < b.ds.length) {all : List (List Nat)} (h32 : ∀ x ∈ all, x.length = 32) (h8 : ∀ x ∈ all, ∀ y ∈ x, y < 256) : ∀ k, k ≤ all.length → 6 + k ≤ 52 →
    wrk b m all k = { b with writes := b.writes + k, ds := b.ds.set m (wrD (b.ds.getD m D.blank) all k) } ∧ Up (wrk b m all k) := by
  intro k
  have hg0 : b.ds.getD m D.blank = b.ds[m] := by simp [List.getD, hm]
  induction k with
  | zero =>
    intro _ _
    refine ⟨?_, h⟩
    show b = _
    have : b.ds.set m (b.ds.getD m D.blank) = b.ds := by rw [hg0]; simp
    show b = { b with writes := b.writes + 0, ds := b.ds.set m (b.ds.getD m D.blank) }
    rw [this, Int.add_zero]
  | succ k ih =>
    intro hk h52
    obtain ⟨e, hu⟩ := ih (by omega) (by omega)
    have hg : all.getD k [] ∈ all := by rw [show all.getD k [] = all[k] by simp [List.getD, show k < all.length by omega]]; exact List.getElem_mem _
    have hml : m < (wrk b m all k).ds.length := by rw [e]; simpa using hm
    obtain ⟨_, e2⟩ := hu.write hml (a := 6 + k) (by omega) (h32 _ hg)
    have e3 : (wrk b m all k).ds.getD m D.blank = wrD (b.ds.getD m D.blank) all k := by
      rw [e]
      show (b.ds.set m _).getD m D.blank = _
      simp [List.getD, hm]
    have e4 : wrk b m all (k + 1) = { b with writes := b.writes + (k + 1 : Nat), ds := b.ds.set m (wrD (b.ds.getD m D.blank) all (k + 1)) } := by
      show write (wrk b m all k) (m : Int) ((6 + k : Nat) : Int) (all.getD k []) = _
      rw [e2, e3, e]
      show ({ writes := b.writes + k + 1, left := b.left, down := b.down, ds := (b.ds.set m _).set m (wrD (b.ds.getD m D.blank) all (k + 1)) } : Bn) = _
      rw [List.set_set]
      congr 1
      omega
    refine ⟨e4, ?_⟩
    rw [e4]
    refine ⟨h.down, h.left, fun d hd => ?_, fun d hd => ?_⟩
    · rcases List.mem_or_eq_of_mem_set hd with h1 | h1
      · exact h.fine d h1
      · rw [h1, wrD_f, hg0]; exact h.fine _ (List.getElem_mem hm)
    · rcases List.mem_or_eq_of_mem_set hd with h1 | h1
      · exact h.ok d h1
      · rw [h1]; exact wrD_ok (by rw [hg0]; exact h.ok _ (List.getElem_mem hm)) h32 h8 _ (by omega) (by omega)
/-- how many of the first m disks are live -/
def cntL (lv : List Bool) : Nat → Nat
  | 0 => 0
  | m + 1 => cntL lv m + if live1 lv m then 1 else 0
theorem putW_spec {b : Bn} (h : Up b) (lv : List Bool) {all : List (List Nat)} (h32 : ∀ x ∈ all, x.length = 32) (h8 : ∀ x ∈ all, ∀ y ∈ x, y < 256) (h52 : 6 + all.length ≤ 52) : ∀ m, m ≤ b.ds.length →
    Up (putW b lv all m) ∧ (putW b lv all m).writes = b.writes + (cntL lv m * all.length : Nat) ∧ (putW b lv all m).ds.length = b.ds.length ∧ ∀ i, (putW b lv all m).ds.getD i D.blank = if i < m ∧ live1 lv i then wrD (b.ds.getD i D.blank) all all.length else b.ds.getD i D.blank := by
  intro m
  induction m with
  | zero => intro _; exact ⟨h, by simp [putW, cntL], rfl, fun i => by rw [if_neg (by omega)]; rfl⟩
  | succ m ih =>
    intro hm
    obtain ⟨u, e1, e2, e3⟩ := ih (by omega)
    by_cases hl : live1 lv m = true
    · have e : putW b lv all (m + 1) = wrk (putW b lv all m) m all all.length := by show (if _ then _ else _) = _; rw [if_pos hl]
      obtain ⟨f1, f2⟩ := wrk_spec u (m := m) (by rw [e2]; omega) h32 h8 all.length (Nat.le_refl _) h52
      rw [e]
      refine ⟨f2, ?_, ?_, fun i => ?_⟩
      · rw [f1]
        show (putW b lv all m).writes + _ = _
        rw [e1]
        show _ = b.writes + (((cntL lv m + if live1 lv m then 1 else 0) * all.length : Nat) : Int)
        rw [if_pos hl, Nat.add_mul]
        omega
      · rw [f1]; show (List.set _ _ _).length = _; rw [List.length_set, e2]
      · rw [f1]
        show ((putW b lv all m).ds.set m _).getD i D.blank = _
        by_cases him : m = i
        · subst him
          rw [if_pos ⟨by omega, hl⟩, e3, if_neg (by omega)]
          simp [List.getD, e2, show m < b.ds.length by omega]
        · have : ((putW b lv all m).ds.set m (wrD ((putW b lv all m).ds.getD m D.blank) all all.length)).getD i D.blank = (putW b lv all m).ds.getD i D.blank := by
            simp only [List.getD, List.getElem?_set_ne him]
          rw [this, e3]
          by_cases h2 : i < m ∧ live1 lv i = true
          · rw [if_pos h2, if_pos ⟨by omega, h2.2⟩]
          · rw [if_neg h2, if_neg (fun h3 => h2 ⟨by omega, h3.2⟩)]
    · have e : putW b lv all (m + 1) = putW b lv all m := by show (if _ then _ else _) = _; rw [if_neg hl]
      rw [e]
      refine ⟨u, ?_, e2, fun i => ?_⟩
      · rw [e1]
        show _ = b.writes + (((cntL lv m + if live1 lv m then 1 else 0) * all.length : Nat) : Int)
        rw [if_neg hl, Nat.add_zero]
      · rw [e3]
        by_cases h2 : i < m ∧ live1 lv i = true
        · rw [if_pos h2, if_pos ⟨by omega, h2.2⟩]
        · rw [if_neg h2, if_neg (fun h3 => h2 ⟨by
            rcases Nat.lt_or_ge i m with h4 | h4
            · exact h4
            · have : i = m := by omega
              rw [this] at h3; exact absurd h3.2 hl, h3.2⟩)]
theorem flW_spec {b : Bn} (h : Up b) (lv : List Bool) : ∀ m, m ≤ b.ds.length →
    Up (flW b lv m) ∧ (flW b lv m).writes = b.writes ∧ (flW b lv m).ds.length = b.ds.length ∧ ∀ i, (flW b lv m).ds.getD i D.blank = if i < m ∧ live1 lv i then D.flush (b.ds.getD i D.blank) else b.ds.getD i D.blank := by
  intro m
  induction m with
  | zero => intro _; exact ⟨h, rfl, rfl, fun i => by rw [if_neg (by omega)]; rfl⟩
  | succ m ih =>
    intro hm
    obtain ⟨u, e1, e2, e3⟩ := ih (by omega)
    by_cases hl : live1 lv m = true
    · have hmm : m < (flW b lv m).ds.length := by rw [e2]; omega
      have hdk : dk (flW b lv m) (m : Int) = (flW b lv m).ds[m] := dk_nat (List.getElem?_eq_getElem hmm)
      have hf : ((flW b lv m).ds[m]).f = false := u.fine _ (List.getElem_mem hmm)
      have hfl : D.flushed (dk (flW b lv m) (m : Int)) = D.flush ((flW b lv m).ds[m]) := by unfold D.flushed; rw [hdk, hf]; rfl
      have e : flW b lv (m + 1) = { flW b lv m with ds := (flW b lv m).ds.set m (D.flush ((flW b lv m).ds[m])) } := by show (if _ then _ else _) = _; rw [if_pos hl, hfl]
      have hgm : (flW b lv m).ds.getD m D.blank = (flW b lv m).ds[m] := by simp [List.getD, hmm]
      rw [e]
      refine ⟨⟨u.down, u.left, fun d hd => ?_, fun d hd => ?_⟩, e1, by show (List.set _ _ _).length = _; rw [List.length_set, e2], fun i => ?_⟩
      · rcases List.mem_or_eq_of_mem_set hd with h1 | h1
        · exact u.fine d h1
        · rw [h1]; exact hf
      · rcases List.mem_or_eq_of_mem_set hd with h1 | h1
        · exact u.ok d h1
        · rw [h1]; exact D.flush_ok (u.ok _ (List.getElem_mem hmm))
      · show ((flW b lv m).ds.set m _).getD i D.blank = _
        by_cases him : m = i
        · subst him
          rw [if_pos ⟨by omega, hl⟩, ← hgm, e3, if_neg (by omega)]
          simp [List.getD, hmm]
        · have : ((flW b lv m).ds.set m (D.flush ((flW b lv m).ds[m]))).getD i D.blank = (flW b lv m).ds.getD i D.blank := by
            simp only [List.getD, List.getElem?_set_ne him]
          rw [this, e3]
          by_cases h2 : i < m ∧ live1 lv i = true
          · rw [if_pos h2, if_pos ⟨by omega, h2.2⟩]
          · rw [if_neg h2, if_neg (fun h3 => h2 ⟨by omega, h3.2⟩)]
    · have e : flW b lv (m + 1) = flW b lv m := by show (if _ then _ else _) = _; rw [if_neg hl]
      rw [e]
      refine ⟨u, e1, e2, fun i => ?_⟩
      rw [e3]
      by_cases h2 : i < m ∧ live1 lv i = true
      · rw [if_pos h2, if_pos ⟨by omega, h2.2⟩]
      · rw [if_neg h2, if_neg (fun h3 => h2 ⟨by
          rcases Nat.lt_or_ge i m with h4 | h4
          · exact h4
          · have : i = m := by omega
            rw [this] at h3; exact absurd h3.2 hl, h3.2⟩)]
/-- behind a Put: what each disk says at each place -/
theorem putB_spec {b : Bn} (h : Up b) (lv : List Bool) {all : List (List Nat)} (h32 : ∀ x ∈ all, x.length = 32) (h8 : ∀ x ∈ all, ∀ y ∈ x, y < 256) (h52 : 6 + all.length ≤ 52) :
    Up (putB b lv all) ∧ (putB b lv all).writes = b.writes + (cntL lv b.ds.length * all.length : Nat) ∧ (putB b lv all).ds.length = b.ds.length ∧
      ∀ i a, i < b.ds.length → a < 52 → D.look ((putB b lv all).ds.getD i D.blank) a = if live1 lv i ∧ 6 ≤ a ∧ a < 6 + all.length then all.getD (a - 6) [] else D.look (b.ds.getD i D.blank) a := by
  obtain ⟨u, e1, e2, e3⟩ := putW_spec h lv h32 h8 h52 b.ds.length (Nat.le_refl _)
  obtain ⟨v, f1, f2, f3⟩ := flW_spec u lv b.ds.length (by rw [e2]; exact Nat.le_refl _)
  refine ⟨v, by show (flW _ _ _).writes = _; rw [f1, e1], by show (flW _ _ _).ds.length = _; rw [f2, e2], fun i a hi ha => ?_⟩
  show D.look ((flW (putW b lv all b.ds.length) lv b.ds.length).ds.getD i D.blank) a = _
  rw [f3]
  by_cases hl : live1 lv i = true
  · have hok : D.Ok ((putW b lv all b.ds.length).ds.getD i D.blank) := by
      have hi' : i < (putW b lv all b.ds.length).ds.length := by rw [e2]; exact hi
      rw [show (putW b lv all b.ds.length).ds.getD i D.blank = (putW b lv all b.ds.length).ds[i] by simp [List.getD, hi']]
      exact u.ok _ (List.getElem_mem hi')
    rw [if_pos ⟨hi, hl⟩, D.look_flush hok ha, e3, if_pos ⟨hi, hl⟩, wrD_look]
    by_cases h2 : 6 ≤ a ∧ a < 6 + all.length
    · rw [if_pos h2, if_pos ⟨hl, h2⟩]
    · rw [if_neg h2, if_neg (fun h3 => h2 h3.2)]
  · rw [if_neg (fun h3 => hl h3.2), e3, if_neg (fun h3 => hl h3.2), if_neg (fun h3 => hl h3.1)]
end Go.Proofs.Ytenjpldinnbcbaa.B
/- The walks of backup.may, is, bad, head. -/

namespace Go.Proofs.Ytenjpldinnbcbaa
open Go.RowKit C
set_option linter.unusedVariables false
set_option linter.unusedSimpArgs false
set_option maxRecDepth 100000
set_option maxHeartbeats 2000000

theorem Bools.cellAt {w : World} {ao : Option Addr} {n cap : Nat} {l : List Bool} (h : Bools w (.slice ao n cap) l) {k : Nat} (hk : k < l.length) :
    ∃ b off x, ao = some ⟨b, off, none⟩ ∧ w.cell? ⟨b, off + k, none⟩ = some (.bool x) ∧ Hid (l[k]? = some x) := by
  obtain ⟨ao', cap', e, h1, h2, h0, hA⟩ := h
  cases e
  obtain ⟨b, off, c, rfl, hc, hck⟩ := hA.cell (k := k) (by simpa using hk)
  rw [List.getElem?_map, List.getElem?_eq_getElem hk] at hck
  simp only [Option.map_some, Option.some.injEq] at hck
  exact ⟨b, off, l[k], rfl, by rw [hc, ← hck]; rfl, List.getElem?_eq_getElem hk⟩
theorem Bools.shapeB {w : World} {v : Value} {l : List Bool} (h : Bools w v l) : ∃ ao cap, v = .slice ao l.length cap ∧ l.length ≤ cap ∧ cap ≤ 9223372036854775807 := by
  obtain ⟨ao, cap, rfl, h1, h2, _⟩ := h
  exact ⟨ao, cap, rfl, h1, h2⟩
theorem bkis_any (v : Value) (l : List Bool) (d : Nat) (w : World) (h : Bools w v l) (hd : d ≤ 1000000) :
    Calls Try.prog 56 #[v, .int .i64 (d : Int)] w fun e w' => e = .returned (.bool (B.live1 l d)) ∧ w = w' := by
  have H := Lib.hid h
  obtain ⟨al, cl, rfl, h1, h2⟩ := h.shapeB
  obtain ⟨m, hm⟩ : ∃ m, m = l.length := ⟨_, rfl⟩
  rw [← hm] at H h1 ⊢
  have HM := Lib.hid hm
  have hd0 : (0 : Int) ≤ (d : Int) := by omega
  clear h hm
  by_cases hlt : d < m
  · have hlt' : (d : Int) < (m : Int) := by omega
    obtain ⟨b, off, x, rfl, hx, hxk⟩ := H.out.cellAt (k := d) (by rw [← HM.out]; exact hlt)
    have EX : Hid (B.live1 l d = x) := by show _ = _; unfold B.live1; rw [List.getD, hxk.out]; rfl
    clear hlt
    go_enter Try.func56, Try.ntmps56
    go_wp2
    go_ret
    exact ⟨ret_bool EX.out.symm, rfl⟩
  · have hkB : decide ((d : Int) < (m : Int)) = false := by rw [decide_eq_false_iff_not]; omega
    have hkP : ((d : Int) < (m : Int)) = False := by rw [eq_iff_iff]; exact ⟨fun h => by omega, fun h => h.elim⟩
    have EX : Hid (B.live1 l d = false) := by show _ = _; unfold B.live1; rw [List.getD, List.getElem?_eq_none (by rw [← HM.out]; omega)]; rfl
    clear hlt
    go_enter Try.func56, Try.ntmps56
    go_wp2
    go_ret
    exact ⟨ret_bool EX.out.symm, rfl⟩
theorem bkbad_any (e : Int) (w : World) : Calls Try.prog 57 #[.int .i64 e] w fun r w' => r = .returned (.bool (decide (e ≠ 0 ∧ e ≠ 5))) ∧ w = w' := by
  by_cases h0 : e = 0
  · subst h0
    go_enter Try.func57, Try.ntmps57
    go_wp2
    go_ret
    exact ⟨rfl, rfl⟩
  · have hb : (e != 0) = true := by rw [bne_iff_ne]; exact h0
    by_cases h5 : e = 5
    · subst h5
      go_enter Try.func57, Try.ntmps57
      go_wp2
      go_ret
      exact ⟨rfl, rfl⟩
    · have hb5 : (e != 5) = true := by rw [bne_iff_ne]; exact h5
      have HT := Lib.hid (decide_eq_true (show e ≠ 0 ∧ e ≠ 5 from ⟨h0, h5⟩))
      clear h0 h5
      go_enter Try.func57, Try.ntmps57
      go_wp2
      go_ret
      exact ⟨ret_bool HT.out.symm, rfl⟩
def mayB (e x : Int) (data : List (List Nat)) : Bool := decide (0 ≤ e ∧ e < 65536 ∧ 0 ≤ x ∧ x ≤ 16 ∧ data.length ≤ 28) && !(data.any badB)
theorem bkmay_yes (e x : Nat) (v : Value) (data : List (List Nat)) (w : World) (h : Parts w v data) (he : e < 65536) (hx : x ≤ 16) (hl : data.length ≤ 28) (h32 : ∀ p ∈ data, p.length = 32) :
    Calls Try.prog 53 #[.int .i64 (e : Int), .int .i64 (x : Int), v] w fun r w' => r = .returned (.bool true) ∧ Below w.heap.size w w' := by
  have H := Lib.hid h
  obtain ⟨al, cl, rfl, h1, h2⟩ := h.shape
  obtain ⟨m, hm⟩ : ∃ m, m = data.length := ⟨_, rfl⟩
  rw [← hm] at H hl ⊢
  have e0 : (0 : Int) ≤ (e : Int) := by omega
  have e1 : (e : Int) < 65536 := by omega
  have x0 : (0 : Int) ≤ (x : Int) := by omega
  have x1 : (x : Int) ≤ 16 := by omega
  have m1 : (m : Int) ≤ 28 := by omega
  have hb : data.any badB = false := by
    rw [List.any_eq_false]
    intro p hp
    unfold badB
    rw [h32 p hp]
    decide
  have HB := Lib.hid hb
  clear h hm h1 hb h32
  go_enter Try.func53, Try.ntmps53
  go_wp2_with fail
  refine Calls.mono (cbad_any _ data _ H.out) ?_
  rw [HB.out]
  rintro r w1 ⟨rfl, D⟩
  go_wp2
  go_ret
  exact ⟨rfl, D.below _⟩
/-- the first sector of a window kept -/
def headL (e x : Nat) (data : List (List Nat)) : List Nat := sealed ([87, 66, 65, 75, e / 256 % 256, e % 256, x % 256, data.length % 256] ++ List.replicate 24 0) data
theorem headL_len (e x : Nat) (data : List (List Nat)) : (headL e x data).length = 32 := sealed_len _ (by simp)
theorem bkhead_any (e x : Nat) (v : Value) (data : List (List Nat)) (w : World) (h : Parts w v data) (he : e < 65536) (hx : x ≤ 16) (hl : data.length ≤ 28) :
    Calls Try.prog 54 #[.int .i64 (e : Int), .int .i64 (x : Int), v] w fun r w' => ∃ hv, r = .returned hv ∧ Own w' w.heap.size hv (headL e x data) ∧ Below w.heap.size w w' := by
  have H := Lib.hid h
  obtain ⟨al, cl, rfl, h1, h2⟩ := h.shape
  obtain ⟨m, hm⟩ : ∃ m, m = data.length := ⟨_, rfl⟩
  rw [← hm] at H hl ⊢
  obtain ⟨j0, hj, hy0, hy1, hy2⟩ := info_parts uint8_info
  have kc := fun (w : World) (C : Array Value) (n c : Nat) => Lib.run_convert_bytes_const (P := Try.prog) w 48 5 C n c Try.underlying48 Try.underlying5
  have HM := Lib.hid hm
  have e0 : (0 : Int) ≤ (e : Int) := by omega
  have e1 : (e : Int) < 65536 := by omega
  have x1 : (x : Int) ≤ 16 := by omega
  have m1 : (m : Int) ≤ 28 := by omega
  clear h hm h1
  go_enter Try.func54, Try.ntmps54
  go_wp2_with (first
    | (at_builtin; go_loud (refine wpList_append_full rfl _ _ 48 rfl j0 Try.underlying48 hj hy0 hy1 hy2 _ _ _ [87, 66, 65, 75] rfl ((Byt.lit w _ _ [87, 66, 65, 75] rfl rfl rfl (by decide) (by decide)).up (belA1 (belR _))) _ _ _ _ [e / 256 % 256, e % 256, x % 256, m % 256] rfl (Byt.lit _ _ _ _ (by simp) rfl (by simp [u8v]; omega) (by intro x hx; simp at hx; omega) (by simp)) (by simp) (by simp) ?_); intro v3 w3 O3 g3x
       have b3 : Below w.heap.size w w3 := belGN (belA2 (belR _)) g3x
       have O3 := own_mono O3 (show w.heap.size ≤ _ by simp; omega)
       obtain ⟨l8, hl8⟩ : ∃ l8, l8 = [87, 66, 65, 75] ++ [e / 256 % 256, e % 256, x % 256, m % 256] := ⟨_, rfl⟩
       have L8 : l8.length = 8 := by rw [hl8]; rfl
       rw [← hl8] at O3
       obtain ⟨g3, k3, he3, hg31, hg32, hk31, hk32⟩ := O3.shape (by rw [L8]; decide)
       rw [L8] at he3 hk31
       subst he3
       have HL8 := Lib.hid hl8
       have L8' := Lib.hid L8
       clear hl8 L8 kc g3x)
    | (at_builtin; go_loud (refine wpList_append_zbytes_pl rfl _ _ 48 3 rfl j0 Try.underlying48 .i64 .i64 Try.underlying3 hj hy0 hy1 hy2 w.heap.size _ _ rfl O3 24 rfl (by decide) (by rw [L8'.out]; decide) b3.size ?_); intro v4 w4 O4 g4 _
       have L32 : (l8 ++ List.replicate 24 0).length = 32 := by rw [List.length_append, L8'.out, List.length_replicate]
       obtain ⟨g4', k4, he4, hg41, hg42, _, _⟩ := O4.shape (by rw [L32]; decide)
       rw [L32] at he4
       subst he4
       have b4 : Below w.heap.size w w4 := belG b3 g4 (fun g hg => by cases hg; exact hg31)))
  refine Calls.mono (seal_yes _ _ _ data _ w.heap.size O4 L32 (H.out.up b4) (by rw [← HM.out]; omega)) ?_
  rintro r w5 ⟨rfl, O5, g5⟩
  go_wp2
  go_ret
  refine ⟨_, rfl, ?_, belG b4 g5 (fun g hg => by cases hg; exact hg41)⟩
  have e2 : headL e x data = sealed (l8 ++ List.replicate 24 0) data := by unfold headL; rw [HL8.out, ← HM.out]; rfl
  rw [e2]
  exact O5
end Go.Proofs.Ytenjpldinnbcbaa
/- Rows and truths that lie apart from a set of blocks (a bench's). backup.may that may not. What stands in the midst of a Put. -/

namespace Go.Proofs.Ytenjpldinnbcbaa
open Go.RowKit
set_option linter.unusedVariables false
set_option linter.unusedSimpArgs false
set_option maxRecDepth 100000
set_option maxHeartbeats 2000000

/-- rows that lie apart from S -/
def PA (S : Nat → Prop) (w : World) (v : Value) (ls : List (List Nat)) : Prop :=
  ∃ ao cap cs, v = .slice ao ls.length cap ∧ ls.length ≤ cap ∧ cap ≤ maxLen ∧ (ao = none → cap = 0) ∧ At w ao cs ∧ cs.length = ls.length ∧ (ls ≠ [] → ∀ y, v.ownBlock = some y → ¬ S y) ∧ ∀ i, i < ls.length → ∃ c, cs[i]? = some c ∧ Byt w c (ls.getD i []) ∧ (ls.getD i [] ≠ [] → ∀ y, c.ownBlock = some y → ¬ S y)
theorem PA.parts {S : Nat → Prop} {w : World} {v : Value} {ls : List (List Nat)} (h : PA S w v ls) : Parts w v ls := by
  obtain ⟨ao, cap, cs, e, h1, h2, h0, hA, hl, _, hB⟩ := h
  exact ⟨ao, cap, cs, e, h1, h2, h0, hA, hl, fun i hi => let ⟨c, e, hc, _⟩ := hB i hi; ⟨c, e, hc⟩⟩
theorem At.fr {S : Nat → Prop} {w w' : World} {ao : Option Addr} {n cap : Nat} {cs : List Value} (h : At w ao cs) (k : Fr S w w') (hb : cs ≠ [] → ∀ y, (Value.slice ao n cap).ownBlock = some y → ¬ S y) : At w' ao cs := by
  by_cases hn : cs = []
  · exact .inl hn
  · rcases h with h4 | ⟨b, off, rfl, hlt, hc⟩
    · exact .inl h4
    · exact .inr ⟨b, off, rfl, Nat.lt_of_lt_of_le hlt k.size, fun i hi => by rw [World.cell?_of_block (k.block b hlt (hb hn b rfl))]; exact hc i hi⟩
theorem Byt.frN {S : Nat → Prop} {w w' : World} {v : Value} {l : List Nat} (h : Byt w v l) (k : Fr S w w') (hb : l ≠ [] → ∀ g, v.ownBlock = some g → ¬ S g) : Byt w' v l := by
  by_cases hn : l = []
  · obtain ⟨ao, cap, e, h1, h2, h0, h3, _⟩ := h
    exact ⟨ao, cap, e, h1, h2, h0, h3, .inl (by rw [hn]; rfl)⟩
  · exact h.fr k (hb hn)
theorem At.blk {w : World} {ao : Option Addr} {n cap : Nat} {cs : List Value} (h : At w ao cs) (hn : cs ≠ []) {y : Nat} (hy : (Value.slice ao n cap).ownBlock = some y) : y < w.heap.size := by
  rcases h with h4 | ⟨b, off, rfl, hlt, hc⟩
  · exact absurd h4 hn
  · cases hy; exact hlt
theorem Byt.blkN {w : World} {v : Value} {l : List Nat} (h : Byt w v l) (hn : l ≠ []) {y : Nat} (hy : v.ownBlock = some y) : y < w.heap.size := by
  obtain ⟨ao, cap, rfl, h1, h2, h0, h3, hA⟩ := h
  exact hA.blk (by simpa using hn) hy
theorem PA.step {S S' : Nat → Prop} {w w' : World} {v : Value} {ls : List (List Nat)} (h : PA S w v ls) (k : Fr S w w') (hS : ∀ y, S' y → S y ∨ w.heap.size ≤ y) : PA S' w' v ls := by
  obtain ⟨ao, cap, cs, rfl, h1, h2, h0, hA, hl, hv, hB⟩ := h
  have hne : cs ≠ [] → ls ≠ [] := fun a b => a (List.eq_nil_of_length_eq_zero (by rw [hl, b]; rfl))
  have hne2 : ls ≠ [] → cs ≠ [] := fun a b => a (List.eq_nil_of_length_eq_zero (by rw [← hl, b]; rfl))
  refine ⟨ao, cap, cs, rfl, h1, h2, h0, hA.fr (n := ls.length) (cap := cap) k (fun a => hv (hne a)), hl, fun a y hy hs => ?_, fun i hi => ?_⟩
  · rcases hS y hs with h3 | h3
    · exact hv a y hy h3
    · have := hA.blk (hne2 a) hy; omega
  · obtain ⟨c, e, hc, hcv⟩ := hB i hi
    refine ⟨c, e, hc.frN k hcv, fun a y hy hs => ?_⟩
    rcases hS y hs with h3 | h3
    · exact hcv a y hy h3
    · have := hc.blkN a hy; omega
theorem PA.up {S : Nat → Prop} {w w' : World} {v : Value} {ls : List (List Nat)} (h : PA S w v ls) (k : Below w.heap.size w w') : PA S w' v ls := by
  obtain ⟨ao, cap, cs, rfl, h1, h2, h0, hA, hl, hv, hB⟩ := h
  exact ⟨ao, cap, cs, rfl, h1, h2, h0, hA.fr (S := fun _ => False) (n := ls.length) (cap := cap) (Fr.of_below k) (fun _ _ _ => id), hl, hv, fun i hi => let ⟨c, e, hc, hx⟩ := hB i hi; ⟨c, e, hc.up k, hx⟩⟩
theorem PA.get {S : Nat → Prop} {w : World} {ao : Option Addr} {n cap : Nat} {ls : List (List Nat)} (h : PA S w (.slice ao n cap) ls) {k : Nat} (hk : k < ls.length) :
    ∃ b off c p, ao = some ⟨b, off, none⟩ ∧ w.cell? ⟨b, off + k, none⟩ = some c ∧ Hid (ls[k]? = some p) ∧ Byt w c p ∧ (p ≠ [] → ∀ y, c.ownBlock = some y → ¬ S y) := by
  obtain ⟨ao', cap', cs, e, h1, h2, h0, hA, hl, _, hB⟩ := h
  cases e
  obtain ⟨b, off, c, rfl, hc, hck⟩ := hA.cell (k := k) (by rw [hl]; exact hk)
  obtain ⟨c', hc', hby, hx⟩ := hB k hk
  have e : c = c' := Option.some.inj (hck.symm.trans hc')
  subst e
  exact ⟨b, off, c, _, rfl, hc, getD_get _ hk, hby, hx⟩
theorem PA.shape {S : Nat → Prop} {w : World} {v : Value} {ls : List (List Nat)} (h : PA S w v ls) : ∃ ao cap, v = .slice ao ls.length cap ∧ ls.length ≤ cap ∧ cap ≤ maxLen := by
  obtain ⟨ao, cap, cs, e, h1, h2, _⟩ := h
  exact ⟨ao, cap, e, h1, h2⟩
/-- rows that are owned from base on lie apart from what lies below it -/
theorem PA.of_rowB {S : Nat → Prop} {w : World} {base : Nat} {v : Value} {cs : List Value} {ls : List (List Nat)} (h : w.ownsRow base 48 1 v ls.length cs) (hl : cs.length = ls.length) (hS : ∀ y, S y → y < base)
    (hb : ∀ i, i < ls.length → ∃ c, cs[i]? = some c ∧ Byt w c (ls.getD i []) ∧ (ls.getD i [] ≠ [] → ∀ y, c.ownBlock = some y → ¬ S y)) : PA S w v ls := by
  have hP := Parts.of_own h hl (fun i hi => let ⟨c, e, hc, _⟩ := hb i hi; ⟨c, e, hc⟩)
  obtain ⟨ao, cap, cs', e, h1, h2, h0, hA, hl', hB⟩ := hP
  have hlt := h.lt
  refine ⟨ao, cap, cs, e, h1, h2, h0, ?_, hl, fun _ y hy hs => by have := (hlt y hy).1; have := hS y hs; omega, hb⟩
  rcases hA with hA | ⟨b, off, rfl, hlt2, hc⟩
  · exact .inl (List.eq_nil_of_length_eq_zero (by rw [hl, ← hl', hA]; rfl))
  · subst e
    rcases h.2 with ⟨e, hn⟩ | ⟨bl, cap', cur, e, _⟩
    · cases e
    · cases e
      have key := h.cellAt
      exact .inr ⟨b, 0, rfl, hlt2, fun i hi => by rw [Nat.zero_add, key i (by rw [← hl]; simpa using hi)]⟩
def BA (S : Nat → Prop) (w : World) (v : Value) (l : List Bool) : Prop := Bools w v l ∧ (l ≠ [] → ∀ y, v.ownBlock = some y → ¬ S y)
theorem Bools.blk {w : World} {v : Value} {l : List Bool} (h : Bools w v l) (hn : l ≠ []) {y : Nat} (hy : v.ownBlock = some y) : y < w.heap.size := by
  obtain ⟨ao, cap, rfl, h1, h2, h0, hA⟩ := h
  exact hA.blk (by simpa using hn) hy
theorem Bools.frN {S : Nat → Prop} {w w' : World} {v : Value} {l : List Bool} (h : Bools w v l) (k : Fr S w w') (hb : l ≠ [] → ∀ g, v.ownBlock = some g → ¬ S g) : Bools w' v l := by
  obtain ⟨ao, cap, rfl, h1, h2, h0, hA⟩ := h
  exact ⟨ao, cap, rfl, h1, h2, h0, hA.fr (n := l.length) (cap := cap) k (fun a => hb (by simpa using a))⟩
theorem BA.step {S S' : Nat → Prop} {w w' : World} {v : Value} {l : List Bool} (h : BA S w v l) (k : Fr S w w') (hS : ∀ y, S' y → S y ∨ w.heap.size ≤ y) : BA S' w' v l :=
  ⟨h.1.frN k h.2, fun a y hy hs => by
    rcases hS y hs with h3 | h3
    · exact h.2 a y hy h3
    · have := h.1.blk a hy; omega⟩
theorem BA.bools {S : Nat → Prop} {w : World} {v : Value} {l : List Bool} (h : BA S w v l) : Bools w v l := h.1
theorem BA.up {S : Nat → Prop} {w w' : World} {v : Value} {l : List Bool} (h : BA S w v l) (k : Below w.heap.size w w') : BA S w' v l := ⟨h.1.up k, h.2⟩
theorem bkmay_no (e x : Int) (v : Value) (data : List (List Nat)) (w : World) (h : Parts w v data) (hn : mayB e x data = false) :
    Calls Try.prog 53 #[.int .i64 e, .int .i64 x, v] w fun r w' => r = .returned (.bool false) ∧ Below w.heap.size w w' := by
  have H := Lib.hid h
  obtain ⟨al, cl, rfl, h1, h2⟩ := h.shape
  obtain ⟨m, hm⟩ : ∃ m, m = data.length := ⟨_, rfl⟩
  have HM := Lib.hid hm
  rw [← hm] at H ⊢
  have HN := Lib.hid hn
  clear h h1 h2 hm hn
  by_cases e0 : 0 ≤ e
  · have ge0 : (e ≥ 0) = True := by simpa using e0
    by_cases e1 : e < 65536
    · by_cases x0 : 0 ≤ x
      · have gx0 : (x ≥ 0) = True := by simpa using x0
        by_cases x1 : x ≤ 16
        · by_cases m1 : (m : Int) ≤ 28
          · have HB : Hid (data.any badB = true) := by
              have := HN.out
              show _ = true
              unfold mayB at this
              rw [decide_eq_true (by rw [← HM.out]; refine ⟨e0, e1, x0, x1, by omega⟩)] at this
              simpa using this
            have m1' : m ≤ 28 := by omega
            go_enter Try.func53, Try.ntmps53
            go_wp2_with fail
            refine Calls.mono (cbad_any _ data _ H.out) ?_
            rw [HB.out]
            rintro r w1 ⟨rfl, D⟩
            go_wp2
            go_ret
            exact ⟨rfl, D.below _⟩
          · have m1' : ¬ m ≤ 28 := by omega
            go_enter Try.func53, Try.ntmps53
            go_wp2
            go_ret
            exact ⟨rfl, belR _⟩
        · go_enter Try.func53, Try.ntmps53
          go_wp2
          go_ret
          exact ⟨rfl, belR _⟩
      · have gx0 : (x ≥ 0) = False := by simpa using x0
        go_enter Try.func53, Try.ntmps53
        go_wp2
        go_ret
        exact ⟨rfl, belR _⟩
    · go_enter Try.func53, Try.ntmps53
      go_wp2
      go_ret
      exact ⟨rfl, belR _⟩
  · have ge0 : (e ≥ 0) = False := by simpa using e0
    go_enter Try.func53, Try.ntmps53
    go_wp2
    go_ret
    exact ⟨rfl, belR _⟩
namespace B
theorem cntL_le (lv : List Bool) (m : Nat) : cntL lv m ≤ m := by
  induction m with
  | zero => exact Nat.le_refl _
  | succ m ih =>
    show cntL lv m + _ ≤ _
    split <;> omega
/-- in the midst of a Put -/
theorem mid_spec {b : Bn} (h : Up b) (lv : List Bool) {all : List (List Nat)} (h32 : ∀ x ∈ all, x.length = 32) (h8 : ∀ x ∈ all, ∀ y ∈ x, y < 256) (h52 : 6 + all.length ≤ 52) {N : Nat} (hp : ∀ d ∈ b.ds, d.p.length ≤ N) {m k : Nat} (hm : m < b.ds.length) (hk : k ≤ all.length) :
    Up (wrk (putW b lv all m) m all k) ∧ (wrk (putW b lv all m) m all k).ds.length = b.ds.length ∧ (∀ d ∈ (wrk (putW b lv all m) m all k).ds, d.p.length ≤ N + 92) ∧ b.writes ≤ (wrk (putW b lv all m) m all k).writes ∧ (wrk (putW b lv all m) m all k).writes ≤ b.writes + ((b.ds.length + 1) * all.length : Nat) := by
  obtain ⟨u, e1, e2, e3⟩ := putW_spec h lv h32 h8 h52 m (by omega)
  obtain ⟨f1, f2⟩ := wrk_spec u (m := m) (by rw [e2]; exact hm) h32 h8 k hk (by omega)
  have hget : ∀ i, i < b.ds.length → ((putW b lv all m).ds.getD i D.blank).p.length ≤ N + 46 := by
    intro i hi
    have hb : (b.ds.getD i D.blank).p.length ≤ N := by
      rw [show b.ds.getD i D.blank = b.ds[i] by simp [List.getD, hi]]
      exact hp _ (List.getElem_mem hi)
    rw [e3]
    split
    · rw [wrD_p]; omega
    · omega
  refine ⟨f2, by rw [f1]; show (List.set _ _ _).length = _; rw [List.length_set, e2], fun d hd => ?_, ?_, ?_⟩
  · rw [f1] at hd
    have hd' : d ∈ (putW b lv all m).ds.set m (wrD ((putW b lv all m).ds.getD m D.blank) all k) := hd
    rcases List.mem_or_eq_of_mem_set hd' with h1 | h1
    · obtain ⟨i, hi, e⟩ := List.getElem_of_mem h1
      have := hget i (by rw [← e2]; exact hi)
      rw [show (putW b lv all m).ds.getD i D.blank = d by rw [← e]; simp [List.getD, hi]] at this
      omega
    · rw [h1, wrD_p]
      have := hget m hm
      omega
  · rw [f1]; show _ ≤ (putW b lv all m).writes + _; rw [e1]; omega
  · rw [f1]
    show (putW b lv all m).writes + _ ≤ _
    rw [e1]
    have h1 := cntL_le lv m
    have h2 : cntL lv m * all.length ≤ b.ds.length * all.length := Nat.mul_le_mul_right _ (by omega)
    rw [Nat.add_mul]
    omega
end B
end Go.Proofs.Ytenjpldinnbcbaa
