/- Merged: DiskP, DiskB, DiskCl, DiskPut, DiskWr, DiskFl, DiskDm, DiskA. -/
import Derived.Test.YtenjpldinnbcbaaRowOwn
import Derived.Deep.MidRow
import Derived.Test.YtenjpldinnbcbaaKeep
import Derived.Test.YtenjpldinnbcbaaMoreF
import Derived.Deep.WholeRow
import Derived.Laws.Cover3
import Derived.Deep.RegionHeld3
import Derived.Deep.DrawnRows
import Derived.Great.BuildSlice
import Derived.Test.YtenjpldinnbcbaaOpen
import Derived.Test.YtenjpldinnbcbaaPlay
/- A disk: what it has in plain terms, and how that lies in memory. Over any program. -/

namespace Go.Proofs.Ytenjpldinnbcbaa
open Go.RowKit
set_option linter.unusedVariables false
set_option linter.unusedSimpArgs false
namespace D
/-- what stays, what is pending, has it failed -/
structure Dk where
  l : List (List Nat)
  p : List (Nat × List Nat)
  f : Bool
def blank : Dk := ⟨List.replicate 52 (List.replicate 32 0), [], false⟩
/-- well formed -/
structure Ok (d : Dk) : Prop where
  len : d.l.length = 52
  sec : ∀ s ∈ d.l, s.length = 32
  byt : ∀ s ∈ d.l, ∀ x ∈ s, x < 256
  pat : ∀ w ∈ d.p, w.1 < 52
  psec : ∀ w ∈ d.p, w.2.length = 32
  pbyt : ∀ w ∈ d.p, ∀ x ∈ w.2, x < 256
def may (d : Dk) (at' : Int) : Int := if d.f then 5 else if at' < 0 ∨ 52 ≤ at' then 4 else 0
/-- the last of what is pending at a place, or what stays -/
def look (d : Dk) (a : Nat) : List Nat := d.p.foldl (fun b w => if w.1 = a then w.2 else b) (d.l.getD a [])
def apply (l : List (List Nat)) (p : List (Nat × List Nat)) : List (List Nat) := p.foldl (fun l w => l.set w.1 w.2) l
def write (d : Dk) (a : Nat) (x : List Nat) : Dk := { d with p := d.p ++ [(a, x)] }
def flush (d : Dk) : Dk := { d with l := apply d.l d.p, p := [] }
/-- those of what is pending that are kept -/
def kept : List (Nat × List Nat) → List Bool → List (Nat × List Nat)
  | [], _ => []
  | _, [] => []
  | w :: p, k :: ks => if k then w :: kept p ks else kept p ks
def crash (d : Dk) (ks : List Bool) : Dk := { d with l := apply d.l (kept d.p ks), p := [] }
def fail : Dk := { blank with f := true }
def damage (d : Dk) (a : Nat) (x : List Nat) : Dk := { d with l := d.l.set a x, p := d.p.filter (fun w => w.1 ≠ a) }

theorem flat_split {l : List (List Nat)} {n a : Nat} (hl : ∀ s ∈ l, s.length = n) (ha : a < l.length) :
    ∃ A C, A.length = n * a ∧ l.flatten = A ++ (l[a] ++ C) ∧ ∀ x, (l.set a x).flatten = A ++ (x ++ C) := by
  refine ⟨(l.take a).flatten, (l.drop (a + 1)).flatten, ?_, ?_, fun x => ?_⟩
  · rw [List.length_flatten]
    have : (l.take a).map List.length = List.replicate a n := by
      apply List.ext_getElem?
      intro i
      rcases Nat.lt_or_ge i a with hi | hi
      · have e : (l.take a)[i]? = some l[i] := by rw [List.getElem?_take_of_lt hi, List.getElem?_eq_getElem]
        rw [List.getElem?_map, e]
        simp [hi, hl l[i] (List.getElem_mem _)]
      · rw [List.getElem?_eq_none (by simp; omega), List.getElem?_eq_none (by simp; omega)]
    rw [this, List.sum_replicate_nat, Nat.mul_comm]
  · have e : l = l.take a ++ l[a] :: l.drop (a + 1) := by rw [List.getElem_cons_drop, List.take_append_drop]
    have e2 := congrArg List.flatten e
    rw [List.flatten_append, List.flatten_cons] at e2
    exact e2
  · rw [List.set_eq_take_append_cons_drop, if_pos ha]
    simp
theorem blank_ok : Ok blank := by
  refine ⟨by simp [blank], ?_, ?_, ?_, ?_, ?_⟩
  · intro s hs; rw [List.eq_of_mem_replicate hs]; simp
  · intro s hs x hx; rw [List.eq_of_mem_replicate hs] at hx; rw [List.eq_of_mem_replicate hx]; decide
  · intro w hw; cases hw
  · intro w hw; cases hw
  · intro w hw; cases hw
theorem set_ok {d : Dk} (h : Ok d) {a : Nat} {x : List Nat} (hx : x.length = 32) (h8 : ∀ y ∈ x, y < 256) : Ok { d with l := d.l.set a x } := by
  refine ⟨by simp [h.len], ?_, ?_, h.pat, h.psec, h.pbyt⟩
  · intro s hs
    rcases List.mem_or_eq_of_mem_set hs with h1 | h1
    · exact h.sec s h1
    · rw [h1]; exact hx
  · intro s hs
    rcases List.mem_or_eq_of_mem_set hs with h1 | h1
    · exact h.byt s h1
    · rw [h1]; exact h8
theorem write_ok {d : Dk} (h : Ok d) {a : Nat} {x : List Nat} (ha : a < 52) (hx : x.length = 32) (h8 : ∀ y ∈ x, y < 256) : Ok (write d a x) := by
  refine ⟨h.len, h.sec, h.byt, ?_, ?_, ?_⟩
  all_goals
    intro w hw
    rcases List.mem_append.1 hw with h1 | h1
  · exact h.pat w h1
  · rw [List.mem_singleton.1 h1]; exact ha
  · exact h.psec w h1
  · rw [List.mem_singleton.1 h1]; exact hx
  · exact h.pbyt w h1
  · rw [List.mem_singleton.1 h1]; exact h8
theorem apply_ok (p : List (Nat × List Nat)) : ∀ {l : List (List Nat)}, l.length = 52 → (∀ s ∈ l, s.length = 32) → (∀ s ∈ l, ∀ x ∈ s, x < 256) → (∀ w ∈ p, w.2.length = 32) → (∀ w ∈ p, ∀ x ∈ w.2, x < 256) →
    (apply l p).length = 52 ∧ (∀ s ∈ apply l p, s.length = 32) ∧ ∀ s ∈ apply l p, ∀ x ∈ s, x < 256 := by
  induction p with
  | nil => intro l h1 h2 h3 _ _; exact ⟨h1, h2, h3⟩
  | cons w p ih =>
    intro l h1 h2 h3 h4 h5
    refine ih (l := l.set w.1 w.2) (by simp [h1]) ?_ ?_ (fun v hv => h4 v (.tail _ hv)) (fun v hv => h5 v (.tail _ hv))
    · intro s hs
      rcases List.mem_or_eq_of_mem_set hs with h | h
      · exact h2 s h
      · rw [h]; exact h4 w (.head _)
    · intro s hs
      rcases List.mem_or_eq_of_mem_set hs with h | h
      · exact h3 s h
      · rw [h]; exact h5 w (.head _)
theorem flush_ok {d : Dk} (h : Ok d) : Ok (flush d) := by
  obtain ⟨h1, h2, h3⟩ := apply_ok d.p h.len h.sec h.byt h.psec h.pbyt
  exact ⟨h1, h2, h3, (fun w hw => by cases hw), (fun w hw => by cases hw), (fun w hw => by cases hw)⟩
theorem kept_mem : ∀ (p : List (Nat × List Nat)) (ks : List Bool), ∀ w ∈ kept p ks, w ∈ p
  | [], _, w, h => by simp [kept] at h
  | _ :: _, [], w, h => by simp [kept] at h
  | v :: p, k :: ks, w, h => by
    unfold kept at h
    split at h
    · cases h with
      | head => exact .head _
      | tail _ h => exact .tail _ (kept_mem p ks w h)
    · exact .tail _ (kept_mem p ks w h)
theorem crash_ok {d : Dk} (h : Ok d) (ks : List Bool) : Ok (crash d ks) := by
  obtain ⟨h1, h2, h3⟩ := apply_ok (kept d.p ks) h.len h.sec h.byt (fun w hw => h.psec w (kept_mem _ _ w hw)) (fun w hw => h.pbyt w (kept_mem _ _ w hw))
  exact ⟨h1, h2, h3, (fun w hw => by cases hw), (fun w hw => by cases hw), (fun w hw => by cases hw)⟩
theorem fail_ok : Ok fail := ⟨blank_ok.len, blank_ok.sec, blank_ok.byt, (fun w hw => by cases hw), (fun w hw => by cases hw), (fun w hw => by cases hw)⟩
theorem damage_ok {d : Dk} (h : Ok d) {a : Nat} {x : List Nat} (hx : x.length = 32) (h8 : ∀ y ∈ x, y < 256) : Ok (damage d a x) := by
  have h1 := set_ok (a := a) h hx h8
  exact ⟨h1.len, h1.sec, h1.byt, fun w hw => h.pat w (List.mem_filter.1 hw).1, fun w hw => h.psec w (List.mem_filter.1 hw).1, fun w hw => h.pbyt w (List.mem_filter.1 hw).1⟩
theorem look_ok {d : Dk} (h : Ok d) {a : Nat} (ha : a < 52) : (look d a).length = 32 ∧ ∀ x ∈ look d a, x < 256 := by
  have key : ∀ (p : List (Nat × List Nat)) (b : List Nat), (∀ w ∈ p, w.2.length = 32) → (∀ w ∈ p, ∀ x ∈ w.2, x < 256) → b.length = 32 → (∀ x ∈ b, x < 256) →
      (p.foldl (fun b w => if w.1 = a then w.2 else b) b).length = 32 ∧ ∀ x ∈ p.foldl (fun b w => if w.1 = a then w.2 else b) b, x < 256 := by
    intro p
    induction p with
    | nil => intro b _ _ h3 h4; exact ⟨h3, h4⟩
    | cons w p ih =>
      intro b h1 h2 h3 h4
      refine ih _ (fun v hv => h1 v (.tail _ hv)) (fun v hv => h2 v (.tail _ hv)) ?_ ?_
      · show (if w.1 = a then w.2 else b).length = 32
        split
        · exact h1 w (.head _)
        · exact h3
      · show ∀ x ∈ (if w.1 = a then w.2 else b), x < 256
        split
        · exact h2 w (.head _)
        · exact h4
  have hlt : a < d.l.length := by rw [h.len]; exact ha
  have e : d.l.getD a [] = d.l[a] := by simp [List.getD, hlt]
  unfold look
  rw [e]
  exact key d.p _ h.psec h.pbyt (h.sec _ (List.getElem_mem hlt)) (h.byt _ (List.getElem_mem hlt))
end D
/-- the cells of a disk's object -/
def dcells (d : D.Dk) (pv : Value) : List Value := d.l.flatten.map u8v ++ [pv, .bool d.f]
def wcells (w : Nat × List Nat) : List Value := .int .i64 (w.1 : Int) :: w.2.map u8v
def pcells (p : List (Nat × List Nat)) : List Value := p.flatMap wcells
theorem range_upd {w : World} {g : Nat} {A B B' C : List Value} (h : w.rangeAt g 0 (A ++ (B ++ C))) (hb : B'.length = B.length) (ht : w.there g A.length B'.length) : (w.setCells g A.length B').rangeAt g 0 (A ++ (B' ++ C)) := by
  have hA : w.rangeAt g 0 A := fun j v hv => h j v (by rw [List.getElem?_append_left (List.getElem?_eq_some_iff.1 hv).1]; exact hv)
  have hC : w.rangeAt g (A.length + B.length) C := fun j v hv => by
    have := h (A.length + (B.length + j)) v (by rw [List.getElem?_append_right (by omega), Nat.add_sub_cancel_left, List.getElem?_append_right (by omega), Nat.add_sub_cancel_left]; exact hv)
    rw [Nat.zero_add, ← Nat.add_assoc] at this
    exact this
  have h1 := World.rangeAt_setCells_apart hA g A.length B' (.inr (.inl (by omega)))
  have h2 := World.rangeAt_setCells_same w g A.length B' ht
  have h3 := World.rangeAt_setCells_apart hC g A.length B' (.inr (.inr (by omega)))
  intro j v hv
  rcases Nat.lt_or_ge j A.length with hj | hj
  · rw [List.getElem?_append_left hj] at hv
    exact h1 j v hv
  · rw [List.getElem?_append_right hj] at hv
    rcases Nat.lt_or_ge (j - A.length) B'.length with hj2 | hj2
    · rw [List.getElem?_append_left hj2] at hv
      have := h2 (j - A.length) v hv
      rwa [show A.length + (j - A.length) = 0 + j by omega] at this
    · rw [List.getElem?_append_right hj2] at hv
      have := h3 (j - A.length - B'.length) v hv
      rwa [show A.length + B.length + (j - A.length - B'.length) = 0 + j by omega] at this
theorem range_mid {w : World} {g : Nat} {A B C : List Value} (h : w.rangeAt g 0 (A ++ (B ++ C))) : w.rangeAt g A.length B := fun j v hv => by
  have hj := (List.getElem?_eq_some_iff.1 hv).1
  have := h (A.length + j) v (by rw [List.getElem?_append_right (by omega), Nat.add_sub_cancel_left, List.getElem?_append_left hj]; exact hv)
  rwa [Nat.zero_add] at this
end Go.Proofs.Ytenjpldinnbcbaa
/- Merged: Disk, DiskQ, DiskRead, DiskB, DiskNew. -/

/- The walks of package disk. -/

namespace Go.Proofs.Ytenjpldinnbcbaa
open Go.RowKit
set_option linter.unusedVariables false
set_option linter.unusedSimpArgs false
set_option maxRecDepth 100000
set_option maxHeartbeats 1000000

/-- a disk in memory: its object g, its pending slice pv -/
structure IsDisk (w : World) (base g : Nat) (pv : Value) (d : D.Dk) : Prop where
  ge : base ≤ g
  lt : g < w.heap.size
  cells : w.rangeAt g 0 (dcells d pv)
  there : w.there g 0 1666
  pend : w.ownsRow base 141 33 pv d.p.length (pcells d.p)
  ok : D.Ok d
  ap : pv.ownBlock ≠ some g
theorem flat_len {l : List (List Nat)} {n : Nat} (h : ∀ s ∈ l, s.length = n) : l.flatten.length = n * l.length := by
  induction l with
  | nil => simp
  | cons a l ih =>
    rw [List.flatten_cons, List.length_append, ih (fun s hs => h s (.tail _ hs)), h a (.head _), List.length_cons, Nat.mul_add]
    omega
theorem IsDisk.flat {w : World} {base g : Nat} {pv : Value} {d : D.Dk} (h : IsDisk w base g pv d) : (d.l.flatten.map u8v).length = 1664 := by
  rw [List.length_map, flat_len h.ok.sec, h.ok.len]
theorem IsDisk.pv_cell {w : World} {base g : Nat} {pv : Value} {d : D.Dk} (h : IsDisk w base g pv d) : w.cell? ⟨g, 1664, none⟩ = some pv := by
  have := h.cells 1664 pv (by unfold dcells; rw [List.getElem?_append_right (by rw [h.flat]; exact Nat.le_refl _), h.flat]; rfl)
  simpa using this
theorem IsDisk.f_cell {w : World} {base g : Nat} {pv : Value} {d : D.Dk} (h : IsDisk w base g pv d) : w.cell? ⟨g, 1665, none⟩ = some (.bool d.f) := by
  have := h.cells 1665 (.bool d.f) (by unfold dcells; rw [List.getElem?_append_right (by rw [h.flat]; decide), h.flat]; rfl)
  simpa using this
theorem may_any (w : World) (base g : Nat) (pv : Value) (d : D.Dk) (at' : Int) (h : IsDisk w base g pv d) :
    Calls Try.prog 98 #[.pointer (some ⟨g, 0, none⟩), .int .i64 at'] w fun e w' => e = .returned (.int .i64 (D.may d at')) ∧ w = w' := by
  have hf := h.f_cell
  by_cases hd : d.f = true
  · have HE : Hid (D.may d at' = 5) := by show _ = _; unfold D.may; rw [if_pos hd]
    rw [hd] at hf
    clear hd
    go_enter Try.func98, Try.ntmps98
    go_wp2
    go_ret
    exact ⟨by rw [HE.out]; rfl, rfl⟩
  · have hd : d.f = false := by simpa using hd
    rw [hd] at hf
    by_cases ha : at' < 0 ∨ 52 ≤ at'
    · have HE : Hid (D.may d at' = 4) := by show _ = _; unfold D.may; rw [hd, if_pos ha]; rfl
      clear hd
      rcases ha with ha | ha
      · go_enter Try.func98, Try.ntmps98
        go_wp2
        go_ret
        exact ⟨by rw [HE.out]; rfl, rfl⟩
      · go_enter Try.func98, Try.ntmps98
        go_wp2
        go_ret
        exact ⟨by rw [HE.out]; rfl, rfl⟩
    · have HE : Hid (D.may d at' = 0) := by show _ = _; unfold D.may; rw [hd, if_neg ha]; rfl
      have h1 : 0 ≤ at' := by omega
      have h2 : at' < 52 := by omega
      clear hd ha
      go_enter Try.func98, Try.ntmps98
      go_wp2
      go_ret
      exact ⟨by rw [HE.out]; rfl, rfl⟩
end Go.Proofs.Ytenjpldinnbcbaa
/- The walks of disk.Pending and disk.Failed, which change nothing. -/

namespace Go.Proofs.Ytenjpldinnbcbaa
open Go.RowKit
set_option linter.unusedVariables false
set_option linter.unusedSimpArgs false
set_option maxRecDepth 100000
set_option maxHeartbeats 1000000

theorem IsDisk.pshape {w : World} {base g : Nat} {pv : Value} {d : D.Dk} (h : IsDisk w base g pv d) : ∃ ao cap, pv = .slice ao d.p.length cap ∧ d.p.length ≤ cap ∧ cap ≤ 9223372036854775807 := by
  rcases h.pend.2 with ⟨e, hn⟩ | ⟨b, cap, cur, e, _, _, h1, h2, _⟩
  · exact ⟨none, 0, by rw [e, hn], by omega, by decide⟩
  · exact ⟨_, cap, e, h1, h2⟩
theorem pending_any (w : World) (base g : Nat) (pv : Value) (d : D.Dk) (h : IsDisk w base g pv d) :
    Calls Try.prog 62 #[.pointer (some ⟨g, 0, none⟩)] w fun e w' => e = .returned (.int .i64 (d.p.length : Nat)) ∧ w = w' := by
  have hp := h.pv_cell
  obtain ⟨ao, cap, rfl, _, _⟩ := h.pshape
  go_enter Try.func62, Try.ntmps62
  go_wp2
  go_ret
  exact ⟨rfl, rfl⟩
theorem failed_any (w : World) (base g : Nat) (pv : Value) (d : D.Dk) (h : IsDisk w base g pv d) :
    Calls Try.prog 85 #[.pointer (some ⟨g, 0, none⟩)] w fun e w' => e = .returned (.bool d.f) ∧ w = w' := by
  have hf := h.f_cell
  go_enter Try.func85, Try.ntmps85
  go_wp2
  go_ret
  exact ⟨rfl, rfl⟩
end Go.Proofs.Ytenjpldinnbcbaa
/- The walk of disk.Read (under way). -/

namespace Go.Proofs.Ytenjpldinnbcbaa
open Go.RowKit
set_option linter.unusedVariables false
set_option linter.unusedSimpArgs false
set_option maxRecDepth 100000
set_option maxHeartbeats 1000000

theorem clone_bytes (v : Value) (l : List Nat) (w : World) (h : Byt w v l) (hl : l.length = 32) :
    Calls Try.prog 99 #[v] w fun e w' => ∃ v', e = .returned v' ∧ Own w' w.heap.size v' l ∧ Below w.heap.size w w' := by
  obtain ⟨j0, hj, hy0, hy1, hy2⟩ := info_parts uint8_info
  obtain ⟨ao, cap, rfl, hc1, hc2⟩ := h.shape
  obtain ⟨b, off, x, rfl, _, _, _⟩ := h.get (k := 0) (by omega)
  have HL := Lib.hid hl
  have hu := Try.underlying48
  have hq : ∀ (n : Nat) (w : World), (binOp .eql 48 (.slice (some ⟨b, off, none⟩) n cap) (.slice none 0 0)).run Try.prog w = .ok (.bool false) w := fun n w => by simp only [binOp]; simp [run_equal_slice_nil w _ _ _ _ _ hu, Result.andThen]
  go_enter Try.func99, Try.ntmps99
  have HO : Hid (Own (w.alloc (.cells #[] 5)) w.heap.size (.slice (some ⟨w.heap.size, 0, none⟩) 0 0) []) :=
    Lib.hid ⟨(fun x hx => by cases hx), rfl, .inr ⟨w.heap.size, 0, #[], rfl, Nat.le_refl _, heap_alloc_new w _, Nat.le_refl _, by decide, rfl, rfl⟩⟩
  have HB := Lib.hid h
  clear h hl
  go_wp2_with (at_builtin; go_loud (refine wpList_append_bytes rfl _ _ 48 rfl j0 hu hj hy0 hy1 hy2 w.heap.size _ [] rfl HO.out _ _ rfl HB.out.alloc (by have := HL.out; simp; omega) (by simp) ?_); intro v' w1 hown hgrow)
  go_ret
  exact ⟨_, rfl, by simpa using hown, (belA1 (belR w)).grown hgrow (by simp) (fun g hg => by cases hg; exact Nat.le_refl _)⟩
theorem read_no (w : World) (base g : Nat) (pv : Value) (d : D.Dk) (at' : Int) (h : IsDisk w base g pv d) (hm : D.may d at' ≠ 0) :
    Calls Try.prog 65 #[.pointer (some ⟨g, 0, none⟩), .int .i64 at'] w fun e w' => e = .returned (.tuple #[.slice none 0 0, .int .i64 (D.may d at')]) ∧ w = w' := by
  obtain ⟨m, hmm⟩ : ∃ m, m = D.may d at' := ⟨_, rfl⟩
  have hc := may_any w base g pv d at' h
  rw [← hmm] at hc hm ⊢
  have hb : (m != 0) = true := by rw [bne_iff_ne]; exact hm
  have HC := Lib.hid hc
  clear hmm hc hm
  go_enter Try.func65, Try.ntmps65
  go_wp2_with fail
  refine Calls.mono HC.out ?_
  rintro e w1 ⟨rfl, rfl⟩
  go_wp2
  go_ret2
  exact ⟨rfl, rfl⟩
end Go.Proofs.Ytenjpldinnbcbaa
/- A disk in memory: its sectors, its pending writes, what keeps it. -/

namespace Go.Proofs.Ytenjpldinnbcbaa
open Go.RowKit
set_option linter.unusedVariables false
set_option linter.unusedSimpArgs false
set_option maxRecDepth 100000
set_option maxHeartbeats 1000000

theorem sec_info : (Try.prog.info? 131).map (fun i => (i.zero, i.size)) = some (some (.agg (List.replicate 32 (u8v 0)).toArray), 32) := by kernel_rfl
theorem write_info : (Try.prog.info? 141).map (fun i => (i.zero, i.size)) = some (some (.agg (wcells (0, List.replicate 32 0)).toArray), 33) := by kernel_rfl
theorem getD_lt {α : Type} {l : List α} {a : Nat} {d : α} (h : a < l.length) : l.getD a d = l[a] := by simp [List.getD, h]
theorem IsDisk.sec_lt {w : World} {base g : Nat} {pv : Value} {d : D.Dk} (h : IsDisk w base g pv d) {a : Nat} (ha : a < 52) : a < d.l.length := by rw [h.ok.len]; exact ha
theorem IsDisk.sector {w : World} {base g : Nat} {pv : Value} {d : D.Dk} (h : IsDisk w base g pv d) {a : Nat} (ha : a < 52) : w.rangeAt g (a * 32) ((d.l.getD a []).map u8v) := by
  obtain ⟨A, C, h1, h2, h3⟩ := D.flat_split h.ok.sec (h.sec_lt ha)
  have hc := h.cells
  unfold dcells at hc
  rw [h2, List.map_append, List.map_append, List.append_assoc, List.append_assoc] at hc
  have := range_mid hc
  rw [List.length_map, h1, Nat.mul_comm] at this
  rw [getD_lt (h.sec_lt ha)]
  exact this
theorem IsDisk.sec_len {w : World} {base g : Nat} {pv : Value} {d : D.Dk} (h : IsDisk w base g pv d) {a : Nat} (ha : a < 52) : (d.l.getD a []).length = 32 := by
  rw [getD_lt (h.sec_lt ha)]
  exact h.ok.sec _ (List.getElem_mem _)
theorem IsDisk.sec_there {w : World} {base g : Nat} {pv : Value} {d : D.Dk} (h : IsDisk w base g pv d) {a : Nat} (ha : a < 52) : w.there g (a * 32) 32 := fun j hj => by
  have := h.there (a * 32 + j) (by omega)
  rwa [Nat.zero_add] at this
theorem wcells_len {v : Nat × List Nat} (h : v.2.length = 32) : (wcells v).length = 33 := by unfold wcells; simp [h]
theorem map_size {l : List Nat} {n : Nat} (h : l.length = n) : (l.map u8v).toArray.size = n := by simp [h]
theorem wcells_one (v : Nat × List Nat) : ∀ u ∈ wcells v, u.oneCell' = true := by
  intro u hu
  unfold wcells at hu
  cases hu with
  | head => rfl
  | tail _ h => exact u8v_one _ u h
theorem pcells_get {p : List (Nat × List Nat)} (h : ∀ v ∈ p, v.2.length = 32) : ∀ {k : Nat} {v : Nat × List Nat}, p[k]? = some v → ∀ j u, (wcells v)[j]? = some u → (pcells p)[k * 33 + j]? = some u := by
  induction p with
  | nil => intro k v hv; simp at hv
  | cons x p ih =>
    intro k v hv j u hu
    have hx := wcells_len (h x (.head _))
    unfold pcells
    rw [List.flatMap_cons]
    cases k with
    | zero =>
      simp at hv
      subst hv
      rw [Nat.zero_mul, Nat.zero_add, List.getElem?_append_left (List.getElem?_eq_some_iff.1 hu).1]
      exact hu
    | succ k =>
      rw [List.getElem?_append_right (by omega), hx, show (k + 1) * 33 + j - 33 = k * 33 + j by omega]
      exact ih (fun y hy => h y (.tail _ hy)) (by simpa using hv) j u hu
/-- the k-th of what is pending, where it lies -/
theorem IsDisk.pend_at {w : World} {base g n cap : Nat} {ao : Option Addr} {d : D.Dk} (h : IsDisk w base g (.slice ao n cap) d) {k : Nat} {v : Nat × List Nat} (hv : d.p[k]? = some v) :
    ∃ b, ao = some ⟨b, 0, none⟩ ∧ base ≤ b ∧ w.rangeAt b (k * 33) (wcells v) ∧ v.2.length = 32 ∧ v.1 < 52 ∧ ∀ x ∈ v.2, x < 256 := by
  have hmem : v ∈ d.p := List.mem_of_getElem? hv
  have hk : k < d.p.length := (List.getElem?_eq_some_iff.1 hv).1
  obtain ⟨hl, hp⟩ := h.pend
  rcases hp with ⟨e, h0⟩ | ⟨b, cap', cur, e, h1, h2, h3, h4, h5, h6⟩
  · omega
  · cases e
    refine ⟨b, rfl, h1, fun j u hu => ?_, h.ok.psec v hmem, h.ok.pat v hmem, h.ok.pbyt v hmem⟩
    have hg := pcells_get h.ok.psec hv j u hu
    rw [← h6] at hg
    have hlt := (List.getElem?_eq_some_iff.1 hg).1
    rw [List.length_take] at hlt
    rw [List.getElem?_take_of_lt (by omega)] at hg
    rw [cell_of_row w b (k * 33 + j) cur _ _ h2]
    simpa using hg
/-- the blocks of a disk -/
def ofD (g : Nat) (pv : Value) (b : Nat) : Prop := b = g ∨ pv.ownBlock = some b
theorem IsDisk.fr {S : Nat → Prop} {w w' : World} {base g : Nat} {pv : Value} {d : D.Dk} (h : IsDisk w base g pv d) (k : Fr S w w') (hS : ∀ b, ofD g pv b → ¬ S b) : IsDisk w' base g pv d :=
  ⟨h.ge, Nat.lt_of_lt_of_le h.lt k.size, rangeAt_fr h.cells k (hS g (.inl rfl)), there_fr h.there k (hS g (.inl rfl)), row_fr h.pend k (fun b hb => hS b (.inr hb)), h.ok, h.ap⟩
theorem IsDisk.up {w w' : World} {base g : Nat} {pv : Value} {d : D.Dk} (h : IsDisk w base g pv d) (k : Below w.heap.size w w') : IsDisk w' base g pv d := h.fr (S := fun _ => False) (Fr.of_below k) (fun _ _ => id)
theorem IsDisk.lts {w : World} {base g : Nat} {pv : Value} {d : D.Dk} (h : IsDisk w base g pv d) : ∀ b, ofD g pv b → b < w.heap.size := fun b hb => by
  rcases hb with rfl | hb
  · exact h.lt
  · exact (h.pend.lt b hb).2
theorem IsDisk.ges {w : World} {base g : Nat} {pv : Value} {d : D.Dk} (h : IsDisk w base g pv d) : ∀ b, ofD g pv b → base ≤ b := fun b hb => by
  rcases hb with rfl | hb
  · exact h.ge
  · exact (h.pend.lt b hb).1
/-- a sector is stored -/
theorem IsDisk.setSec {w : World} {base g : Nat} {pv : Value} {d : D.Dk} (h : IsDisk w base g pv d) {a : Nat} {x : List Nat} (ha : a < 52) (hx : x.length = 32) (h8 : ∀ y ∈ x, y < 256) :
    IsDisk (w.setCells g (a * 32) (x.map u8v)) base g pv { d with l := d.l.set a x } := by
  have hk := Fr.cells w g (a * 32) (x.map u8v)
  refine ⟨h.ge, Nat.lt_of_lt_of_le h.lt hk.size, ?_, World.there_setCells h.there _ _ _, row_fr h.pend hk (fun b hb e => h.ap (e ▸ hb)), D.set_ok h.ok hx h8, h.ap⟩
  obtain ⟨A, C, h1, h2, h3⟩ := D.flat_split h.ok.sec (h.sec_lt ha)
  have hc := h.cells
  unfold dcells at hc ⊢
  show World.rangeAt _ g 0 ((d.l.set a x).flatten.map u8v ++ _)
  rw [h2, List.map_append, List.map_append, List.append_assoc, List.append_assoc] at hc
  rw [h3, List.map_append, List.map_append, List.append_assoc, List.append_assoc]
  have hAl : (A.map u8v).length = a * 32 := by rw [List.length_map, h1, Nat.mul_comm]
  have hlen : (x.map u8v).length = ((d.l[a]'(h.sec_lt ha)).map u8v).length := by
    rw [List.length_map, List.length_map, hx, h.ok.sec _ (List.getElem_mem _)]
  have := range_upd (B' := x.map u8v) hc hlen (by rw [hAl, List.length_map, hx]; exact h.sec_there ha)
  rw [hAl] at this
  exact this
/-- the pending slice is stored -/
theorem obj_setPv {w : World} {g : Nat} {pv pv' : Value} {d : D.Dk} {p' : List (Nat × List Nat)} (hok : D.Ok d) (hc : w.rangeAt g 0 (dcells d pv)) (ht : w.there g 0 1666) :
    (w.setCell ⟨g, 1664, none⟩ pv').rangeAt g 0 (dcells { d with p := p' } pv') ∧ (w.setCell ⟨g, 1664, none⟩ pv').there g 0 1666 := by
  have hfl : (d.l.flatten.map u8v).length = 1664 := by rw [List.length_map, flat_len hok.sec, hok.len]
  have e : w.setCell ⟨g, 1664, none⟩ pv' = w.setCells g 1664 [pv'] := rfl
  rw [e]
  refine ⟨?_, World.there_setCells ht _ _ _⟩
  have h2 := range_upd (A := d.l.flatten.map u8v) (B := [pv]) (B' := [pv']) (C := [.bool d.f]) hc rfl (by
    intro j hj
    have hj0 : j = 0 := by simp at hj; omega
    subst hj0
    have := ht 1664 (by decide)
    rw [Nat.zero_add] at this
    rw [hfl]
    exact this)
  rw [hfl] at h2
  exact h2
theorem IsDisk.setPv {w : World} {base g : Nat} {pv pv' : Value} {d : D.Dk} {p' : List (Nat × List Nat)} (hge : base ≤ g) (hlt : g < w.heap.size) (hok : D.Ok d) (hc : w.rangeAt g 0 (dcells d pv)) (ht : w.there g 0 1666)
    (hrow : w.ownsRow base 141 33 pv' p'.length (pcells p')) (hap : pv'.ownBlock ≠ some g) (hok' : D.Ok { d with p := p' }) : IsDisk (w.setCell ⟨g, 1664, none⟩ pv') base g pv' { d with p := p' } := by
  obtain ⟨h1, h2⟩ := obj_setPv (pv' := pv') (p' := p') hok hc ht
  refine ⟨hge, Nat.lt_of_lt_of_le hlt (Fr.cell (w := w) ⟨g, 1664, none⟩ pv').size, h1, h2, row_fr hrow (Fr.cell _ _) (fun b hb e => hap (by rw [hb]; exact congrArg some e)), hok', hap⟩
theorem IsDisk.clearPv {w : World} {base g : Nat} {pv : Value} {d : D.Dk} (h : IsDisk w base g pv d) : IsDisk (w.setCell ⟨g, 1664, none⟩ (.slice none 0 0)) base g (.slice none 0 0) { d with p := [] } :=
  IsDisk.setPv h.ge h.lt h.ok h.cells h.there (World.ownsRow_nil _ _ _ _) (by intro e; cases e) ⟨h.ok.len, h.ok.sec, h.ok.byt, (fun w hw => by cases hw), (fun w hw => by cases hw), (fun w hw => by cases hw)⟩
theorem obj_pv {w : World} {g : Nat} {pv : Value} {d : D.Dk} (hok : D.Ok d) (hc : w.rangeAt g 0 (dcells d pv)) : w.cell? ⟨g, 1664, none⟩ = some pv := by
  have hfl : (d.l.flatten.map u8v).length = 1664 := by rw [List.length_map, flat_len hok.sec, hok.len]
  have := hc 1664 pv (by unfold dcells; rw [List.getElem?_append_right (by rw [hfl]; exact Nat.le_refl _), hfl]; rfl)
  simpa using this
theorem dcells_len {pv : Value} {d : D.Dk} (hok : D.Ok d) : (dcells d pv).length = 1666 := by
  unfold dcells
  rw [List.length_append, List.length_map, flat_len hok.sec, hok.len]
  rfl
end Go.Proofs.Ytenjpldinnbcbaa
/- The walk of disk.New. -/

namespace Go.Proofs.Ytenjpldinnbcbaa
open Go.RowKit
set_option linter.unusedVariables false
set_option linter.unusedSimpArgs false
set_option maxRecDepth 100000
set_option maxHeartbeats 1000000

theorem disk_info : (Try.prog.info? 135).map (fun i => (i.zero, i.size)) = some (some (.agg (dcells D.blank (.slice none 0 0)).toArray), 1666) := by kernel_rfl
theorem new_any (w : World) : Calls Try.prog 52 #[] w fun e w' => e = .returned (.pointer (some ⟨w.heap.size, 0, none⟩)) ∧ w' = w.alloc (.cells (dcells D.blank (.slice none 0 0)).toArray 135) := by
  obtain ⟨hz, hs⟩ := zero_of_info disk_info
  obtain ⟨Z, hZ⟩ : ∃ Z, Z = (dcells D.blank (.slice none 0 0)).toArray := ⟨_, rfl⟩
  rw [← hZ] at hz ⊢
  have hsz : Z.size = 1666 := by rw [hZ]; decide +kernel
  clear hZ
  go_enter Try.func52, Try.ntmps52
  go_wp2
  go_ret
  exact ⟨rfl, rfl⟩
theorem range_whole {w : World} {g : Nat} {cs : List Value} {t : TypeId} {fr : Nat × Nat} (h : w.heap[g]? = some (.cells cs.toArray t fr)) : w.rangeAt g 0 cs := fun j v hv => by
  rw [Nat.zero_add, cell_of_row w g j _ t fr h]
  simpa using hv
theorem new_disk {w : World} {base : Nat} (hb : base ≤ w.heap.size) : IsDisk (w.alloc (.cells (dcells D.blank (.slice none 0 0)).toArray 135)) base w.heap.size (.slice none 0 0) D.blank := by
  have hh := heap_alloc_new w (.cells (dcells D.blank (.slice none 0 0)).toArray 135)
  refine ⟨hb, by simp, range_whole hh, ?_, World.ownsRow_nil _ _ _ _, D.blank_ok, by intro e; cases e⟩
  intro j hj
  have hl : (dcells D.blank (.slice none 0 0)).toArray.size = 1666 := by decide +kernel
  refine ⟨?_, ?_⟩
  · rw [Nat.zero_add, cell_of_row _ _ j _ _ _ hh, Array.getElem?_eq_getElem (by omega)]
    rfl
  · unfold World.frozen?
    show (match (w.alloc _).heap[w.heap.size]? with | some (.cells _ _ (lo, hi)) => _ | _ => _) = _
    rw [hh]
    simp
end Go.Proofs.Ytenjpldinnbcbaa
/- The walk of disk's Clone. -/

namespace Go.Proofs.Ytenjpldinnbcbaa
open Go.RowKit
set_option linter.unusedVariables false
set_option linter.unusedSimpArgs false
set_option maxRecDepth 100000
set_option maxHeartbeats 1000000

theorem disk_size2 : (Try.prog.info? 135).map (·.size) = some 1666 := by kernel_rfl
theorem write_all : (Try.prog.info? 141).map (fun i => (i.zero, i.size, i.bytes)) = some (some (.agg (wcells (0, List.replicate 32 0)).toArray), 33, 40) := by kernel_rfl
theorem pcells_len {p : List (Nat × List Nat)} (h : ∀ v ∈ p, v.2.length = 32) : (pcells p).length = p.length * 33 := by
  induction p with
  | nil => rfl
  | cons v p ih =>
    unfold pcells at ih ⊢
    rw [List.flatMap_cons, List.length_append, wcells_len (h v (.head _)), ih (fun x hx => h x (.tail _ hx)), List.length_cons]
    omega
theorem pcells_one (p : List (Nat × List Nat)) : ∀ u ∈ pcells p, u.oneCell' = true := by
  intro u hu
  obtain ⟨v, _, h⟩ := List.mem_flatMap.1 hu
  exact wcells_one v u h
theorem pcells_append (p q : List (Nat × List Nat)) : pcells (p ++ q) = pcells p ++ pcells q := by unfold pcells; rw [List.flatMap_append]
/-- slices.Clone of writes -/
theorem clone_writes (v : Value) (p : List (Nat × List Nat)) (base : Nat) (w : World) (h : w.ownsRow base 141 33 v p.length (pcells p)) (hok : ∀ x ∈ p, x.2.length = 32) (hb : p.length * 40 ≤ 140737488355328) :
    Calls Try.prog 108 #[v] w fun e w' => ∃ v', e = .returned v' ∧ w'.ownsRow w.heap.size 141 33 v' p.length (pcells p) ∧ Below w.heap.size w w' := by
  obtain ⟨j0, hj, hy0, hy1, hy2⟩ := info_parts write_all
  have hu := Try.underlying133
  rcases h.2 with ⟨rfl, h0⟩ | ⟨g, cap, cur, rfl, _, hg, h1, h2, _, _⟩
  · have hp : p = [] := List.eq_nil_of_length_eq_zero h0
    subst hp
    have hq : ∀ (w : World), (binOp .eql 133 (.slice none 0 0) (.slice none 0 0)).run Try.prog w = .ok (.bool true) w := fun w => by simp only [binOp]; simp [run_equal_slice_nil w _ _ _ _ _ hu, Result.andThen]
    clear h
    go_enter Try.func108, Try.ntmps108
    go_wp2
    go_ret
    exact ⟨_, rfl, World.ownsRow_nil _ _ _ _, belR w⟩
  · have hq : ∀ (n : Nat) (w : World), (binOp .eql 133 (.slice (some ⟨g, 0, none⟩) n cap) (.slice none 0 0)).run Try.prog w = .ok (.bool false) w := fun n w => by simp only [binOp]; simp [run_equal_slice_nil w _ _ _ _ _ hu, Result.andThen]
    have HA : Hid (At (w.alloc (.cells #[] 141)) (some ⟨g, 0, none⟩) (pcells p)) := (At.of_own (row_fr h (Fr.alloc (S := fun _ => False) w _) (fun _ _ => id)))
    have HO : Hid ((w.alloc (.cells #[] 141)).ownsRow w.heap.size 141 33 (.slice (some ⟨w.heap.size, 0, none⟩) 0 0) 0 []) :=
      Lib.hid ⟨rfl, .inr ⟨w.heap.size, 0, #[], rfl, Nat.le_refl _, heap_alloc_new w _, Nat.le_refl _, by decide, rfl, rfl⟩⟩
    have HL := Lib.hid (pcells_len hok)
    have HB := Lib.hid hb
    clear h hg
    go_enter Try.func108, Try.ntmps108
    go_wp2_with (at_builtin; go_loud (refine wpList_append_at rfl _ _ 133 rfl w.heap.size 141 j0 _ 33 40 hu hj hy0 hy1 hy2 rfl (by decide) _ 0 [] rfl HO.out _ p.length cap (pcells p) rfl (fun e => by cases e) h1 HL.out HA.out (pcells_one p) (by have := HB.out; simp [maxLen]; omega) (by have := HB.out; omega) (by simp) ?_); intro v' w1 hown hgrow _)
    go_ret
    exact ⟨_, rfl, by simpa using hown, (belA1 (belR w)).grown hgrow (by simp) (fun g hg => by cases hg; exact Nat.le_refl _)⟩
theorem dclone_any (w : World) (base g : Nat) (pv : Value) (d : D.Dk) (h : IsDisk w base g pv d) (hb : d.p.length * 40 ≤ 140737488355328) :
    Calls Try.prog 81 #[.pointer (some ⟨g, 0, none⟩)] w fun e w' => ∃ pv', e = .returned (.pointer (some ⟨w.heap.size, 0, none⟩)) ∧ IsDisk w' w.heap.size w.heap.size pv' d ∧ Below w.heap.size w w' := by
  have hz : ∃ Z : Array Value, Z.size = 1666 ∧ ∀ w, (zeroValue 135).run Try.prog w = .ok (.agg Z) w := by
    obtain ⟨hz, hs⟩ := zero_of_info disk_info
    exact ⟨_, by decide +kernel, hz⟩
  obtain ⟨Z, hZ, hz⟩ := hz
  obtain ⟨C, hC⟩ : ∃ C, C = dcells d pv := ⟨_, rfl⟩
  have hl : C.length = 1666 := by
    rw [hC]
    unfold dcells
    rw [List.length_append, h.flat]
    rfl
  have h1 : ∀ u ∈ C, u.oneCell' = true := by
    rw [hC]
    unfold dcells
    intro u hu
    rcases List.mem_append.1 hu with h1 | h1
    · exact u8v_one _ u h1
    · cases h1 with
      | head => obtain ⟨ao, cap, rfl, _⟩ := h.pshape; rfl
      | tail _ h1 => rw [List.mem_singleton.1 h1]; rfl
  have HS : Hid (C.toArray.size = 1666) := by show C.toArray.size = 1666; rw [List.size_toArray]; exact hl
  have HLen := Lib.hid hl
  have HZ := Lib.hid hZ
  have H1 := Lib.hid h1
  have HSz := Lib.hid disk_size2
  have HR : Hid (w.rangeAt g 0 C) := by rw [hC]; exact h.cells
  obtain ⟨W2, hW2⟩ : ∃ W2, W2 = w.alloc (.cells C.toArray 135) := ⟨_, rfl⟩
  have HW2 := Lib.hid hW2
  have hsz : W2.heap.size = w.heap.size + 1 := by rw [hW2]; simp
  have HD : Hid (IsDisk W2 base g pv d) := by rw [hW2]; exact h.up (belA1 (belR w))
  have HB : Hid (Below w.heap.size w W2) := by rw [hW2]; exact belA1 (belR w)
  have HX : Hid (Box W2 w.heap.size (dcells d pv)) := by rw [hW2, ← hC]; exact Box.new w C _
  have hpv := HD.out.pv_cell
  have HBb := Lib.hid hb
  have HH := Lib.hid h
  obtain ⟨ao, cap, rfl, _, _⟩ := h.pshape
  clear hC hl h1 h hW2 hZ hb
  go_enter Try.func81, Try.ntmps81
  go_wp2_with (first
    | (refine wpList_load_mid rfl 135 _ rfl g 0 rfl C _ HR.out Try.underlying135 rfl (by rw [HLen.out]; exact HSz.out) ?_)
    | (refine wpList_store_new rfl 135 _ _ rfl w.heap.size w rfl Z C.toArray rfl rfl rfl (by rw [HS.out]; exact HSz.out) (by rw [HZ.out, HS.out]) (all_oneCell_toArray H1.out) ?_; rw [← HW2.out])
    | (refine Calls.mono (clone_writes _ d.p base _ HD.out.pend HD.out.ok.psec HBb.out) ?_; rintro e w3 ⟨v3, rfl, hO3, hb3⟩; obtain ⟨ao3, cap3, rfl⟩ := row_shape hO3; have hX3 := HX.out.fr (Fr.of_below (S := fun _ => False) hb3) id; have hc3 := obj_pv HH.out.ok hX3.range; have ht3 : w3.there w.heap.size 0 1666 := (by have := hX3.there; rw [dcells_len HH.out.ok] at this; exact this); have hz3 := there_frozen (o := 1664) ht3 (by decide); have HT3 := Lib.hid ht3; have HX3 := Lib.hid hX3; have HO3 := Lib.hid hO3; clear hX3 ht3 hO3)
    | fail)
  go_ret
  have hb23 := HB.out.trans (hb3.mono (by omega))
  refine ⟨.slice ao3 d.p.length cap3, rfl, ?_, (Fr.below (S := fun b => b = w.heap.size) hb23 (Fr.cell (w := w3) ⟨w.heap.size, 1664, none⟩ _) hb23.size (fun i hi => by omega))⟩
  refine IsDisk.setPv (d := d) (p' := d.p) (Nat.le_refl _) (Nat.lt_of_lt_of_le (by omega) hb3.size) HH.out.ok HX3.out.range HT3.out ⟨HO3.out.1, ?_⟩ ?_ HH.out.ok
  · rcases HO3.out.2 with h1 | ⟨g3, c3, cur3, e3, h2, h3⟩
    · exact .inl h1
    · exact .inr ⟨g3, c3, cur3, e3, by omega, h3⟩
  · intro e
    have := (HO3.out.lt _ e).1
    omega
end Go.Proofs.Ytenjpldinnbcbaa
/- The walk of disk's put. -/

namespace Go.Proofs.Ytenjpldinnbcbaa
open Go.RowKit
set_option linter.unusedVariables false
set_option linter.unusedSimpArgs false
set_option maxRecDepth 100000
set_option maxHeartbeats 1000000

/-- copy of as many bytes as there are into the middle of a block -/
theorem wpList_copy_mid {P : Program} {w : World} {ops : Array Oper} {rest : List Oper} {o : Oper} {a : Act} {Q : Exit → Act → World → Prop} (hgd : o.guard = none) (d s : Operand) (dT sT : TypeId)
    (ho : o.op = .call { callee := .builtin .copy, args := #[d, s], argTypes := #[dT, sT] }) (hu : P.underlying dT = some (.slice 5)) (hsz : (P.info? 5).map (·.size) = some 1)
    (b off n cap : Nat) (sv : Value) (hd : a.eval d = .slice (some ⟨b, off, none⟩) n cap) (hs : a.eval s = sv) (l : List Nat) (hsrc : Byt w sv l) (hl : l.length = n) (h0 : 0 < n) (ht : w.there b off n)
    (h : wpList P ops Q rest (a.put o.dst (goInt n)) (w.setCells b off (l.map u8v))) : wpList P ops Q (o :: rest) a w := by
  obtain ⟨ao, cap', rfl, h1, h2, h3, h4, hA⟩ := hsrc
  rcases hA with hA | ⟨b', off', rfl, hlt, hc⟩
  · have : l = [] := by simpa using hA
    subst this
    simp at hl
    omega
  · refine wpList_plain hgd fun K hK => ?_
    have hml : (l.map u8v).length = n := by simp [hl]
    have hrun := run_copy_cells (P := P) w dT sT o.type 5 b off n cap ⟨b', off', none⟩ l.length cap' (l.map u8v) hu hsz (by rw [hml, hl]; exact (Nat.min_self n).symm)
      (fun j v hv => by rw [Addr.add_mid, hc j (List.getElem?_eq_some_iff.1 hv).1]; exact hv) (fun j hj => (ht j (by omega)).1) (fun j hj => (ht j (by omega)).2) (u8v_one _)
    rw [hml] at hrun
    unfold Oper.wp
    simp [execOp, ho, resolve, invoke, builtin, hd, hs, hrun, Result.andThen]
    exact hK _ _ h
theorem built_no : Try.prog.built 141 [] = some (wcells (0, List.replicate 32 0)).toArray := by kernel_rfl
theorem built_at (a : Int) : Try.prog.built 141 [(0, .int .i64 a)] = some ((Value.int .i64 a :: (List.replicate 32 (u8v 0))).toArray) := by kernel_rfl
def putI (d : D.Dk) (at' : Int) (x : List Nat) : Int := if D.may d at' ≠ 0 then D.may d at' else if x.length ≠ 32 then 1 else 0
theorem ret_cell2 {P : Program} {fn : Func} {R : Ending → World → Prop} {a : Act} {w : World} {p u : Tmp} {ty : TypeId} (hf : fn.results = #[.cell p ty, .tmp u]) (b : Nat) (cs : List Value) (d : TypeDesc) (m : Value)
    (hp : a.tmps.getD p undef = .pointer (some ⟨b, 0, none⟩)) (hm : a.tmps.getD u undef = m) (hc : w.rangeAt b 0 cs) (hu : P.underlying ty = some d) (hd : d.isRow = true) (hi : (P.info? ty).map (·.size) = some cs.length)
    (hdf : a.defers = []) (hR : R (.returned (.tuple #[.agg cs.toArray, m])) w) : bodyPost P fn R .ret a w :=
  bodyPost_ret (v := .tuple #[.agg cs.toArray, m]) (by
    rw [results_cell_tmp hf, hp, hm]
    simp [asAddr, Result.andThen, run_loadVar_mid w b 0 ty cs d hc hu hd hi]) hdf hR
theorem put_no (w : World) (base g : Nat) (pv : Value) (d : D.Dk) (at' : Int) (bv : Value) (x : List Nat) (h : IsDisk w base g pv d) (hx : Byt w bv x) (hn : putI d at' x ≠ 0) :
    Calls Try.prog 109 #[.pointer (some ⟨g, 0, none⟩), .int .i64 at', bv] w fun e w' => ∃ cs : List Value, e = .returned (.tuple #[.agg cs.toArray, .int .i64 (putI d at' x)]) ∧ cs.length = 33 ∧ (∀ u ∈ cs, u.oneCell' = true) ∧ Below w.heap.size w w' := by
  obtain ⟨m, hmm⟩ : ∃ m, m = D.may d at' := ⟨_, rfl⟩
  have hc := may_any (w.alloc (.cells (wcells (0, List.replicate 32 0)).toArray 141)) base g pv d at' (h.up (belA1 (belR w)))
  obtain ⟨hz82, hi82⟩ := zero_of_info write_info
  have hbd := fun w => run_build (P := Try.prog) w 141 #[] _ built_no
  obtain ⟨C, hC⟩ : ∃ C, C = wcells (0, List.replicate 32 0) := ⟨_, rfl⟩
  have HCl : Hid (C.length = 33 ∧ ∀ u ∈ C, u.oneCell' = true) := by
    rw [hC]; exact ⟨wcells_len (by simp), wcells_one _⟩
  have HCs : Hid (C.toArray.size = 33) := by show C.toArray.size = 33; rw [List.size_toArray]; exact HCl.out.1
  have HI : Hid ((Try.prog.info? 141).map (·.size) = some 33) := hi82
  rw [← hC] at hz82 hbd hc
  rw [← hmm] at hc
  unfold putI at hn ⊢
  rw [← hmm] at hn ⊢
  have HC := Lib.hid hc
  have HX := Lib.hid hx
  obtain ⟨ao, cap, rfl, _, _⟩ := hx.shape
  clear hmm hc hi82 hx hC h
  by_cases hm : m ≠ 0
  · have hb : (m != 0) = true := by rw [bne_iff_ne]; exact hm
    rw [if_pos hm]
    clear hm hn
    go_enter Try.func109, Try.ntmps109
    go_wp2_with fail
    refine Calls.mono HC.out ?_
    rintro e w1 ⟨rfl, rfl⟩
    go_wp2_with (first
      | (refine wpList_store_new rfl 141 _ _ rfl w.heap.size w rfl C.toArray C.toArray rfl rfl rfl (by rw [HCs.out]; exact HI.out) rfl (all_oneCell_toArray HCl.out.2) ?_)
      | fail)
    (try simp only [Exit.inBlock, Exit.then])
    refine ret_cell2 rfl w.heap.size C _ _ rfl rfl (Box.new w C _).range Try.underlying141 rfl (by rw [HCl.out.1]; exact HI.out) rfl ?_
    exact ⟨C, rfl, HCl.out.1, HCl.out.2, belA1 (belR w)⟩
  · have hm0 : m = 0 := Classical.byContradiction hm
    subst hm0
    rw [if_neg (by decide)] at hn ⊢
    have hlen : x.length ≠ 32 := fun e => hn (by rw [if_neg (by simp [e])])
    rw [if_pos hlen]
    have hb : ((x.length : Int) != 32) = true := by rw [bne_iff_ne]; omega
    clear hm hn hlen
    go_enter Try.func109, Try.ntmps109
    go_wp2_with fail
    refine Calls.mono HC.out ?_
    rintro e w1 ⟨rfl, rfl⟩
    go_wp2_with (first
      | (refine wpList_store_new rfl 141 _ _ rfl w.heap.size w rfl C.toArray C.toArray rfl rfl rfl (by rw [HCs.out]; exact HI.out) rfl (all_oneCell_toArray HCl.out.2) ?_)
      | fail)
    (try simp only [Exit.inBlock, Exit.then])
    refine ret_cell2 rfl w.heap.size C _ _ rfl rfl (Box.new w C _).range Try.underlying141 rfl (by rw [HCl.out.1]; exact HI.out) rfl ?_
    exact ⟨C, rfl, HCl.out.1, HCl.out.2, belA1 (belR w)⟩
theorem put_yes (w : World) (base g : Nat) (pv : Value) (d : D.Dk) (a : Nat) (bv : Value) (x : List Nat) (h : IsDisk w base g pv d) (hx : Byt w bv x) (hf : d.f = false) (ha : a < 52) (hl : x.length = 32) :
    Calls Try.prog 109 #[.pointer (some ⟨g, 0, none⟩), .int .i64 a, bv] w fun e w' => e = .returned (.tuple #[.agg (wcells (a, x)).toArray, .int .i64 0]) ∧ Below w.heap.size w w' := by
  have hc := may_any (w.alloc (.cells (wcells (0, List.replicate 32 0)).toArray 141)) base g pv d a (h.up (belA1 (belR w)))
  have hm : D.may d a = 0 := by
    unfold D.may
    rw [hf, if_neg (by decide), if_neg (by omega)]
  rw [hm] at hc
  obtain ⟨hz82, hi82⟩ := zero_of_info write_info
  have hy := (zero_of_info sec_info).2
  obtain ⟨C, hC⟩ : ∃ C, C = wcells (0, List.replicate 32 0) := ⟨_, rfl⟩
  obtain ⟨E, hE⟩ : ∃ E, E = wcells (a, List.replicate 32 0) := ⟨_, rfl⟩
  have HCl : Hid (C.length = 33 ∧ ∀ u ∈ C, u.oneCell' = true) := by
    rw [hC]; exact ⟨wcells_len (by simp), wcells_one _⟩
  have HEl : Hid (E.length = 33 ∧ ∀ u ∈ E, u.oneCell' = true) := by
    rw [hE]; exact ⟨wcells_len (by simp), wcells_one _⟩
  have HCs : Hid (C.toArray.size = 33) := by show C.toArray.size = 33; rw [List.size_toArray]; exact HCl.out.1
  have HEs : Hid (E.toArray.size = 33) := by show E.toArray.size = 33; rw [List.size_toArray]; exact HEl.out.1
  have HI : Hid ((Try.prog.info? 141).map (·.size) = some 33) := hi82
  have hbe : C.set 0 (Value.int .i64 (a : Int)) = E := by rw [hE, hC]; rfl
  rw [← hC] at hz82 hc
  have HU8 := Lib.hid (show (Try.prog.info? 5).map (·.size) = some 1 by have := uint8_info; cases hq : Try.prog.info? 5 with | none => simp [hq] at this | some i => simp [hq] at this; simp [this])
  have HC := Lib.hid hc
  have HX := Lib.hid hx
  have HB1 : Hid (Box (w.alloc (.cells C.toArray 141)) w.heap.size C) := Box.new w C _
  have HB2 : Hid (Box ((w.alloc (.cells C.toArray 141)).alloc (.cells E.toArray 141)) (w.heap.size + 1) E) := by
    have := Box.new (w.alloc (.cells C.toArray 141)) E 141
    rwa [show (w.alloc (.cells C.toArray 141)).heap.size = w.heap.size + 1 by simp] at this
  have HT : Hid (((w.alloc (.cells C.toArray 141)).alloc (.cells E.toArray 141)).there (w.heap.size + 1) 1 32) := fun j hj => by
    have := HB2.out.there (1 + j) (by rw [HEl.out.1]; omega)
    rwa [Nat.zero_add] at this
  have hkey : ∀ W : World, W.rangeAt (w.heap.size + 1) 0 E → W.there (w.heap.size + 1) 1 32 → (W.setCells (w.heap.size + 1) 1 (x.map u8v)).rangeAt (w.heap.size + 1) 0 (wcells (a, x)) := by
    intro W h1 h2
    rw [hE] at h1
    have h3 := range_upd (A := [Value.int .i64 (a : Int)]) (B := List.replicate 32 (u8v 0)) (B' := x.map u8v) (C := []) (by rw [List.append_nil]; exact h1) (by simp [hl]) (by rw [List.length_map, hl]; exact h2)
    rw [List.append_nil] at h3
    exact h3
  have HF : Hid (Box ((((w.alloc (.cells C.toArray 141)).alloc (.cells E.toArray 141)).setCells (w.heap.size + 1) 1 (x.map u8v))) (w.heap.size + 1) (wcells (a, x))) := by
    refine ⟨?_, ?_⟩
    · exact hkey _ HB2.out.range HT.out
    · rw [wcells_len hl, ← HEl.out.1]
      exact World.there_setCells HB2.out.there _ _ _
  have HB3 : Hid (Box ((((w.alloc (.cells C.toArray 141)).alloc (.cells E.toArray 141)).setCells (w.heap.size + 1) 1 (x.map u8v))) w.heap.size C) :=
    (HB1.out.fr (Fr.alloc (S := fun _ => False) _ _) id).fr (Fr.cells _ _ _ _) (by omega)
  have HWL : Hid ((wcells (a, x)).length = 33) := wcells_len hl
  have HWS : Hid ((wcells (a, x)).toArray.size = 33) := by show (wcells (a, x)).toArray.size = 33; rw [List.size_toArray]; exact HWL.out
  have HT3 : Hid ((((w.alloc (.cells C.toArray 141)).alloc (.cells E.toArray 141)).setCells (w.heap.size + 1) 1 (x.map u8v)).there w.heap.size 0 33) := by
    have := HB3.out.there
    rw [HCl.out.1] at this
    exact this
  have hb : ((x.length : Int) != 32) = false := by rw [hl]; rfl
  have HL := Lib.hid hl
  obtain ⟨ao, cap, rfl, _, _⟩ := hx.shape
  have hcl := HCl.out.1
  have hcn : ¬ C = [] := fun e => by rw [e] at hcl; simp at hcl
  clear hkey hm hc hi82 hx hC hE h hl
  go_enter Try.func109, Try.ntmps109
  go_wp2_with fail
  refine Calls.mono HC.out ?_
  rintro e w1 ⟨rfl, rfl⟩
  go_wp2_with (first
    | (refine wpList_store_new rfl 141 _ _ rfl (w.heap.size + 1) (w.alloc (.cells C.toArray 141)) (by simp) C.toArray E.toArray rfl rfl rfl (by rw [HEs.out]; exact HI.out) (by rw [HCs.out, HEs.out]) (all_oneCell_toArray HEl.out.2) ?_)
    | (refine wpList_copy_mid rfl _ _ 48 48 rfl Try.underlying48 HU8.out (w.heap.size + 1) 1 32 _ _ rfl rfl x HX.out.alloc.alloc HL.out (by decide) HT.out ?_)
    | (refine wpList_load_mid rfl 141 _ rfl (w.heap.size + 1) 0 rfl (wcells (a, x)) _ HF.out.range Try.underlying141 rfl (by rw [HWL.out]; exact HI.out) ?_)
    | (refine wpList_store_mid rfl 141 _ _ rfl w.heap.size 0 (wcells (a, x)).toArray rfl rfl (by rw [HWS.out]; exact HT3.out) (by rw [HWS.out]; exact HI.out) (all_oneCell_toArray (wcells_one _)) ?_)
    | fail)
  (try simp only [Exit.inBlock, Exit.then])
  refine ret_cell2 rfl w.heap.size (wcells (a, x)) _ _ rfl rfl ?_ Try.underlying141 rfl ?_ rfl ?_
  · exact (HB3.out.store (by rw [HWL.out, HCl.out.1])).range
  · rw [HWL.out]; exact HI.out
  refine ⟨rfl, ?_⟩
  have hA := belA2 (belR w) (o1 := .cells C.toArray 141) (o2 := .cells E.toArray 141)
  have hB := Fr.below (S := fun b => b = w.heap.size + 1) hA (Fr.cells _ _ 1 (x.map u8v)) (by simp; omega) (fun i hi => by omega)
  exact Fr.below (S := fun b => b = w.heap.size) hB (Fr.cells _ _ 0 _) hB.size (fun i hi => by omega)
end Go.Proofs.Ytenjpldinnbcbaa
/- The walk of disk's Write. -/

namespace Go.Proofs.Ytenjpldinnbcbaa
open Go.RowKit
set_option linter.unusedVariables false
set_option linter.unusedSimpArgs false
set_option maxRecDepth 100000
set_option maxHeartbeats 1000000
attribute [local go_sem ↓] Go.wp_at_zero Go.wp_at_succ

theorem write_no (w : World) (base g : Nat) (pv : Value) (d : D.Dk) (at' : Int) (bv : Value) (x : List Nat) (h : IsDisk w base g pv d) (hx : Byt w bv x) (hn : putI d at' x ≠ 0) :
    Calls Try.prog 82 #[.pointer (some ⟨g, 0, none⟩), .int .i64 at', bv] w fun e w' => e = .returned (.int .i64 (putI d at' x)) ∧ Below w.heap.size w w' := by
  obtain ⟨hz82, hi82⟩ := zero_of_info write_info
  obtain ⟨Z, hZ⟩ : ∃ Z, Z = (wcells (0, List.replicate 32 0)).toArray := ⟨_, rfl⟩
  have HZS : Hid (Z.size = 33) := by show Z.size = 33; rw [hZ]; rfl
  rw [← hZ] at hz82
  clear hZ
  have HI := Lib.hid hi82
  obtain ⟨m, hm⟩ : ∃ m, m = putI d at' x := ⟨_, rfl⟩
  have hc := put_no w base g pv d at' bv x h hx hn
  rw [← hm] at hc hn ⊢
  have hb : (m == 0) = false := by rw [beq_eq_false_iff_ne]; exact hn
  have HC := Lib.hid hc
  clear hi82 hm hc hn h hx
  go_enter Try.func82, Try.ntmps82
  go_wp2_with fail
  refine Calls.mono HC.out ?_
  rintro e w1 ⟨cs, rfl, hcl, hc1, hbel⟩
  have HCS : Hid (cs.toArray.size = 33) := by show cs.toArray.size = 33; rw [List.size_toArray]; exact hcl
  have HC1 := Lib.hid hc1
  have HCL := Lib.hid hcl
  clear hc1 hcl
  go_wp2_with (first
    | (refine wpList_store_new rfl 141 _ _ rfl w1.heap.size w1 rfl Z cs.toArray rfl rfl rfl (by rw [HCS.out]; exact HI.out) (by rw [HZS.out, HCS.out]) (all_oneCell_toArray HC1.out) ?_)
    | fail)
  go_ret
  exact ⟨rfl, belA1 hbel⟩
theorem pcells_one1 (v : Nat × List Nat) : pcells [v] = wcells v := by unfold pcells; simp
theorem wp_buildSlice_one {P : Program} {o : Oper} {a : Act} {w : World} {K : Act → World → Prop} {Q : Exit → Act → World → Prop} (t e : TypeId) (x : Operand) (ho : o.op = .buildSlice t 1 #[(0, x)]) (cs : List Value) (n : Nat)
    (hx : a.eval x = .agg cs.toArray) (hn : cs.length = n) (h0 : 0 < n) (h1 : n < 1000) (ie : TypeInfo) (z : Value) (hu : P.underlying t = some (.slice e)) (hie : P.info? e = some ie) (hz : ie.zero = some z) (hs : ie.size = n)
    (h : K (a.put o.dst (.slice (some ⟨w.heap.size, 0, none⟩) 1 1)) (w.alloc (.cells cs.toArray e))) : o.wp P a w K Q := by
  refine wp_buildSlice t e 1 _ ho cs.toArray ie z hu hie hz (by omega) (by omega) ?_ h
  have hf := Great.fill_whole (s := n) h0 [Value.agg cs.toArray] ((Array.range (1 * ie.size)).map (z.cells[· % z.cells.size]!)) (fun v hv => by rw [List.mem_singleton.1 hv]; simpa [Value.cells] using hn) (by simp [hs])
  have e1 : ((#[(0, x)] : Array (Nat × Operand)).map fun (i, x) => (i, a.eval x)).toList = (([Value.agg cs.toArray].zipIdx 0).map fun x => (x.2, x.1)) := by simp [hx]
  rw [e1, hs] at *
  rw [hf]
  simp [Value.cells]
theorem news_at {W : World} {cs : List Value} {X : Array Value} {t : TypeId} {b : Nat} (hX : X.toList = cs) (hb : b = W.heap.size) : ∀ j u, cs[j]? = some u → (W.alloc (.cells X t)).cell? ((⟨b, 0, none⟩ : Addr).add j) = some u := by
  intro j u hu
  subst hb
  rw [Addr.add_mid, Nat.zero_add, cell_of_row _ _ j _ _ _ (heap_alloc_new W _)]
  rw [← hX] at hu
  simpa using hu
/-- append onto what is owned: where the row lies that comes back -/
theorem append_place {P : Program} {w : World} (base : Nat) (t ty e : TypeId) (i : TypeInfo) (z : Value) (size bytes : Nat) (ht : P.underlying t = some (.slice e)) (hi : P.info? e = some i) (hz : i.zero = some z)
    (hsize : i.size = size) (hby : i.bytes = bytes) (hzs : z.cells.size = size) (hsz : 0 < size)
    (v : Value) (n : Nat) (xs : List Value) (hown : w.ownsRow base e size v n xs)
    (a : Addr) (m c : Nat) (news : List Value) (hl : news.length = m * size) (hnews : ∀ j u, news[j]? = some u → w.cell? (a.add j) = some u) (h1 : ∀ u ∈ news, u.oneCell' = true)
    (h63 : n + m ≤ maxLen) (hbytes : (n + m) * bytes ≤ 140737488355328) {v' : Value} {w' : World}
    (hr : (Builtin.append_ #[t, t] ty #[v, .slice (some a) m c]).run P w = .ok v' w') : ∀ b, v'.ownBlock = some b → v.ownBlock = some b ∨ w.heap.size ≤ b := by
  intro b hb
  rcases hown.2 with ⟨rfl, rfl⟩ | ⟨g, cap, cur, rfl, hbg, hg, hnc, hcm, hcs, htake⟩
  · have hx : xs = [] := List.eq_nil_of_length_eq_zero (by simpa using hown.1)
    subst hx
    obtain ⟨v2, w2, hr2, h2, _⟩ := run_append_own (P := P) w w.heap.size t ty e i z size bytes ht hi hz hsize hby hzs hsz (.slice none 0 0) 0 [] (World.ownsRow_nil _ _ _ _) a m c news hl hnews h1 h63 hbytes (Nat.le_refl _)
    rw [hr] at hr2
    cases hr2
    exact .inr (h2.lt b hb).1
  · subst hsize
    subst hby
    have hsmall : n + m ≤ 9223372036854775807 := by simp only [maxLen] at h63; omega
    by_cases hroom : n + m ≤ cap
    · have hfit : n * i.size + news.length ≤ cur.size := by rw [hl, hcs, ← Nat.add_mul]; exact Nat.mul_le_mul_right _ hroom
      have hr2 := run_append_room (P := P) w t ty e i ht hi g n cap cur hg a m c news hl hnews h1 hroom hfit
      rw [hr] at hr2
      cases hr2
      exact .inl hb
    · have holds : ∀ j u, xs[j]? = some u → w.cell? ((⟨g, 0, none⟩ : Addr).add j) = some u := hown.cells (g := g) rfl
      have hr2 := run_append_grow (P := P) w t ty e i z ht hi hz ⟨g, 0, none⟩ n cap xs hown.1 holds a m c news hl hnews (by omega) (by omega) (growslice_fits (by omega) hbytes)
      rw [hr] at hr2
      cases hr2
      cases hb
      exact .inr (Nat.le_refl _)
theorem wp_append_pl {P : Program} {w : World} {o : Oper} {a : Act} {K : Act → World → Prop} {Q : Exit → Act → World → Prop} (s x : Operand) (t : TypeId)
    (ho : o.op = .call { callee := .builtin .append, args := #[s, x], argTypes := #[t, t] })
    (base : Nat) (e : TypeId) (i : TypeInfo) (z : Value) (size bytes : Nat) (ht : P.underlying t = some (.slice e)) (hi : P.info? e = some i) (hz : i.zero = some z)
    (hsize : i.size = size) (hby : i.bytes = bytes) (hzs : z.cells.size = size) (hsz : 0 < size)
    (v : Value) (n : Nat) (xs : List Value) (hs : a.eval s = v) (hown : w.ownsRow base e size v n xs)
    (ad : Addr) (m c : Nat) (news : List Value) (hx : a.eval x = .slice (some ad) m c) (hl : news.length = m * size) (hnews : ∀ j u, news[j]? = some u → w.cell? (ad.add j) = some u) (h1 : ∀ u ∈ news, u.oneCell' = true)
    (h63 : n + m ≤ maxLen) (hbytes : (n + m) * bytes ≤ 140737488355328) (hbase : base ≤ w.heap.size)
    (h : ∀ v' w', w'.ownsRow base e size v' (n + m) (xs ++ news) → w.grownBy w' v.ownBlock → (∀ b, v'.ownBlock = some b → v.ownBlock = some b ∨ w.heap.size ≤ b) → K (a.put o.dst v') w') : o.wp P a w K Q := by
  obtain ⟨v', w', hr, h2, h3, _⟩ := run_append_own (P := P) w base t o.type e i z size bytes ht hi hz hsize hby hzs hsz v n xs hown ad m c news hl hnews h1 h63 hbytes hbase
  have h5 := append_place base t o.type e i z size bytes ht hi hz hsize hby hzs hsz v n xs hown ad m c news hl hnews h1 h63 hbytes hr
  unfold Oper.wp execOp
  simp only [ho, resolve, invoke, builtin, Sem.run_bind, Sem.run_pure, Result.andThen_ok, List.map_toArray, List.map_cons, List.map_nil, hs, hx, hr]
  exact h v' w' h2 h3 h5
theorem write_yes (w : World) (base g : Nat) (pv : Value) (d : D.Dk) (a : Nat) (bv : Value) (x : List Nat) (h : IsDisk w base g pv d) (hx : Byt w bv x) (hf : d.f = false) (ha : a < 52) (hl : x.length = 32) (hb0 : base ≤ w.heap.size) (hsz : (d.p.length + 1) * 40 ≤ 140737488355328) :
    Calls Try.prog 82 #[.pointer (some ⟨g, 0, none⟩), .int .i64 a, bv] w fun e w' => e = .returned (.int .i64 0) ∧ ∃ pv', IsDisk w' base g pv' (D.write d a x) ∧ Fr (ofD g pv) w w' ∧ (∀ b, pv'.ownBlock = some b → pv.ownBlock = some b ∨ w.heap.size ≤ b) := by
  obtain ⟨j0, hj, hy0, hy1, hy2⟩ := info_parts write_all
  obtain ⟨hz82, hi82⟩ := zero_of_info write_info
  obtain ⟨Z, hZ⟩ : ∃ Z, Z = (wcells (0, List.replicate 32 0)).toArray := ⟨_, rfl⟩
  have HZS : Hid (Z.size = 33) := by show Z.size = 33; rw [hZ]; rfl
  rw [← hZ] at hz82
  have HI := Lib.hid hi82
  have hc := put_yes w base g pv d a bv x h hx hf ha hl
  have HC := Lib.hid hc
  obtain ⟨cs, hcs⟩ : ∃ cs, cs = wcells (a, x) := ⟨_, rfl⟩
  have hcl : cs.length = 33 := by rw [hcs]; exact wcells_len hl
  have HCS : Hid (cs.toArray.size = 33) := by show cs.toArray.size = 33; rw [List.size_toArray]; exact hcl
  have HC1 : Hid (∀ u ∈ cs, u.oneCell' = true) := by rw [hcs]; exact wcells_one _
  have HCL := Lib.hid hcl
  have HCE := Lib.hid hcs
  have HH := Lib.hid h
  have HX : Hid (∀ y ∈ x, y < 256) := hx.bytes
  have HL := Lib.hid hl
  obtain ⟨ao, cap, rfl, hq1, hq2⟩ := h.pshape
  rw [← hcs] at hc
  have HC := Lib.hid hc
  clear hi82 hc h hx hZ hcs hcl hl
  go_enter Try.func82, Try.ntmps82
  go_wp2_with fail
  refine Calls.mono HC.out ?_
  rintro e w1 ⟨rfl, hbel⟩
  obtain ⟨W2, hW2⟩ : ∃ W2, W2 = w1.alloc (.cells cs.toArray 141) := ⟨_, rfl⟩
  have HW2 := Lib.hid hW2
  have HB2 : Hid (Box W2 w1.heap.size cs) := by rw [hW2]; exact Box.new w1 cs _
  have HD2 : Hid (IsDisk W2 base g (.slice ao d.p.length cap) d) := by rw [hW2]; exact (HH.out.up hbel).up (belA1 (belR w1))
  have HBl : Hid (Below w.heap.size w W2) := by rw [hW2]; exact belA1 hbel
  have HS2 : Hid (W2.heap.size = w1.heap.size + 1) := by show W2.heap.size = _; rw [hW2]; simp
  clear hW2
  go_wp2_with (first
    | (refine wpList_store_new rfl 141 _ _ rfl w1.heap.size w1 rfl Z cs.toArray rfl rfl rfl (by rw [HCS.out]; exact HI.out) (by rw [HZS.out, HCS.out]) (all_oneCell_toArray HC1.out) ?_; rw [← HW2.out])
    | fail)
  have hpv := HD2.out.pv_cell
  have hu78 := Try.underlying133
  have hr2 := HB2.out.range
  have hu82 := Try.underlying141
  have hi1 : (Try.prog.info? 141).map (·.size) = some cs.length := by rw [HCL.out]; exact HI.out
  have hr3 : W2.drew.rangeAt w1.heap.size 0 cs := by rw [World.rangeAt_drew]; exact hr2
  have hpvA : ∀ ob, (W2.drew.alloc ob).cell? ⟨g, 1664, none⟩ = some (.slice ao d.p.length cap) := fun ob => cell_fr hpv ((Fr.drew (S := fun _ => False) _).trans (Fr.alloc _ _)) id
  have hpvB : ∀ ob, (W2.alloc ob).cell? ⟨g, 1664, none⟩ = some (.slice ao d.p.length cap) := fun ob => cell_fr hpv (Fr.alloc (S := fun _ => False) _ _) id
  have hg1 : g < w1.heap.size := Nat.lt_of_lt_of_le HH.out.lt hbel.size
  refine wp_region_held_drew (S := fun w' => w'.rangeAt w1.heap.size 0 cs) (by kernel_rfl) hr3 (fun hHeld => ?_)
  refine wpAnyH_take (i := 5) (oi := _) (v := .agg cs.toArray) rfl (by kernel_rfl) (by kernel_rfl) (by kernel_rfl) (fun _ _ _ h => h) (yieldsIf_load_mid (by rfl) 141 _ rfl w1.heap.size 0 rfl cs _ (fun w h => h) hu82 rfl hi1) (by assumption) ?_
  try simp only [Act.put, List.getElem_toArray, List.getElem_cons_zero, List.getElem_cons_succ, List.setIfInBounds_toArray, List.set_cons_zero, List.set_cons_succ]
  refine wpAnyH_take (i := 0) (oi := _) (v := ?_) rfl (by kernel_rfl) (by kernel_rfl) (by kernel_rfl) (fun _ _ _ h => h) (Or.inl ⟨by rfl, ?_⟩) (by assumption) ?_
  rotate_left
  · intro w hSw
    go_simp
    try with_reducible rfl
  try simp only [Act.put, List.getElem_toArray, List.getElem_cons_zero, List.getElem_cons_succ, List.setIfInBounds_toArray, List.set_cons_zero, List.set_cons_succ]
  refine wpAnyH_take (i := 1) (oi := _) (v := ?_) rfl (by kernel_rfl) (by kernel_rfl) (by kernel_rfl) (fun _ _ _ h => h) (Or.inl ⟨by rfl, ?_⟩) (by assumption) ?_
  rotate_left
  · intro w hSw
    go_simp
    try with_reducible rfl
  try simp only [Act.put, List.getElem_toArray, List.getElem_cons_zero, List.getElem_cons_succ, List.setIfInBounds_toArray, List.set_cons_zero, List.set_cons_succ]
  refine wpAnyH_take (i := 2) (oi := _) (v := ?_) rfl (by kernel_rfl) (by kernel_rfl) (by kernel_rfl) (fun _ _ _ h => h) (Or.inl ⟨by rfl, ?_⟩) (by assumption) ?_
  rotate_left
  · intro w hSw
    go_simp
    try with_reducible rfl
  try simp only [Act.put, List.getElem_toArray, List.getElem_cons_zero, List.getElem_cons_succ, List.setIfInBounds_toArray, List.set_cons_zero, List.set_cons_succ]
  refine wpAnyH_take (i := 3) (oi := _) (v := ?_) rfl (by kernel_rfl) (by kernel_rfl) (by kernel_rfl) (fun _ _ _ h => h) (Or.inl ⟨by rfl, ?_⟩) (by assumption) ?_
  rotate_left
  · intro w hSw
    go_simp
    try with_reducible rfl
  try simp only [Act.put, List.getElem_toArray, List.getElem_cons_zero, List.getElem_cons_succ, List.setIfInBounds_toArray, List.set_cons_zero, List.set_cons_succ]
  refine wpAnyH_ready (rs := [4, 6]) (by kernel_rfl) (by simp) ?_
  refine AllReadyH.cons (o := _) rfl (fun K hK => ?_) (AllReadyH.cons (o := _) rfl (fun K hK => ?_) AllReadyH.nil)
  · go_simp
    refine hK.out _ _ hHeld (fun hHeld => ?_)
    clear hK K
    try simp only [Act.put, List.getElem_toArray, List.getElem_cons_zero, List.getElem_cons_succ, List.setIfInBounds_toArray, List.set_cons_zero, List.set_cons_succ]
    refine wpAnyH_ready (rs := [6]) (by kernel_rfl) (by simp) ?_
    refine AllReadyH.cons (o := _) rfl (fun K hK => ?_) AllReadyH.nil
    rw [if_pos (by rfl)]
    refine wp_buildSlice_one 133 141 _ rfl cs 33 rfl HCL.out (by decide) (by decide) j0 _ hu78 hj hy0 hy1 ?_
    refine hK.out _ _ (World.rangeAt_alloc hHeld _) (fun hHeld => ?_)
    clear hK K
    try simp only [Act.put, List.getElem_toArray, List.getElem_cons_zero, List.getElem_cons_succ, List.setIfInBounds_toArray, List.set_cons_zero, List.set_cons_succ]
    refine wpAnyH_ready (rs := [7]) (by kernel_rfl) (by simp) ?_
    refine AllReadyH.cons (o := _) rfl (fun K hK => ?_) AllReadyH.nil
    rw [if_pos (by rfl)]
    refine wp_append_pl _ _ 133 rfl base 141 j0 _ 33 40 hu78 hj hy0 hy1 hy2 rfl (by decide) (.slice ao d.p.length cap) d.p.length (pcells d.p) rfl (row_fr HD2.out.pend ((Fr.drew (S := fun _ => False) _).trans (Fr.alloc _ _)) (fun _ _ => id)) ⟨W2.heap.size, 0, none⟩ 1 1 cs rfl HCL.out (news_at (by simp) rfl) HC1.out (by simp only [maxLen]; omega) (by omega) (by have := HBl.out.size; simp; omega) ?_
    intro v' w' ho hg hpl
    obtain ⟨ao', cap', rfl⟩ := row_shape ho
    have hA := ((Fr.drew (S := fun b => (Value.slice ao d.p.length cap).ownBlock = some b) W2).trans (Fr.alloc _ (.cells cs.toArray 141))).trans (Fr.grown hg)
    have HOb := Lib.hid (rangeAt_fr HD2.out.cells hA HD2.out.ap)
    have HTh := Lib.hid (there_fr HD2.out.there hA HD2.out.ap)
    have HFr := Lib.hid ((Fr.of_below HBl.out (S := ofD g (Value.slice ao d.p.length cap))).transN hA (fun b hb => .inl (.inr hb)))
    have HO := Lib.hid ho
    have HG := Lib.hid hg
    have HPL := Lib.hid hpl
    have hc' := obj_pv HD2.out.ok HOb.out
    have hz' := there_frozen (o := 1664) HTh.out (by decide)
    have hsh : w'.rangeAt w1.heap.size 0 cs := rangeAt_fr hr2 hA (fun e => by have h1 := (HH.out.pend.lt _ e).2; have h2 := hbel.size; omega)
    clear hA ho hg hHeld hpl
    refine hK.out _ _ hsh (fun hHeld => ?_)
    clear hK K
    try simp only [Act.put, List.getElem_toArray, List.getElem_cons_zero, List.getElem_cons_succ, List.setIfInBounds_toArray, List.set_cons_zero, List.set_cons_succ]
    refine wpAnyH_take (i := 8) (oi := _) (v := ?_) rfl (by kernel_rfl) (by kernel_rfl) (by kernel_rfl) (fun _ _ _ h => h) (Or.inl ⟨by rfl, ?_⟩) (by assumption) ?_
    rotate_left
    · intro w hSw
      go_simp
      try with_reducible rfl
    try simp only [Act.put, List.getElem_toArray, List.getElem_cons_zero, List.getElem_cons_succ, List.setIfInBounds_toArray, List.set_cons_zero, List.set_cons_succ]
    refine wpAnyH_take (i := 9) (oi := _) (v := ?_) rfl (by kernel_rfl) (by kernel_rfl) (by kernel_rfl) (fun _ _ _ h => h) (Or.inl ⟨by rfl, ?_⟩) (by assumption) ?_
    rotate_left
    · intro w hSw
      go_simp
      try with_reducible rfl
    try simp only [Act.put, List.getElem_toArray, List.getElem_cons_zero, List.getElem_cons_succ, List.setIfInBounds_toArray, List.set_cons_zero, List.set_cons_succ]
    refine wpAnyH_ready (rs := [10]) (by kernel_rfl) (by simp) ?_
    refine AllReadyH.cons (o := _) rfl (fun K hK => ?_) AllReadyH.nil
    go_simp
    refine hK.out _ _ (rangeAt_fr hsh (Fr.cell (w := w') ⟨g, 1664, none⟩ _) (by show ¬ w1.heap.size = g; omega)) (fun hHeld => ?_)
    clear hK K
    refine wpAnyH_done (by kernel_rfl) ?_ _
    go_wp2
    go_ret
    refine ⟨rfl, .slice ao' (d.p.length + 1) cap', ?_, HFr.out.trans ((Fr.cell (w := w') ⟨g, 1664, none⟩ _).mono (fun b hb => Or.inl hb)), ?_⟩
    · refine IsDisk.setPv (d := d) (p' := d.p ++ [(a, x)]) HD2.out.ge (Nat.lt_of_lt_of_le HH.out.lt HFr.out.size) HD2.out.ok HOb.out HTh.out ?_ ?_ (D.write_ok HD2.out.ok ha HL.out HX.out)
      · rw [List.length_append, pcells_append, pcells_one1, ← HCE.out]
        exact HO.out
      · intro e
        rcases HPL.out g e with h1 | h1
        · exact HH.out.ap h1
        · have h2 : W2.heap.size + 1 ≤ g := by simpa using h1
          have h3 := HD2.out.lt
          omega
    · intro b hb
      rcases HPL.out b hb with h1 | h1
      · exact .inl h1
      · right
        have h2 := HBl.out.size
        have h3 : W2.heap.size ≤ b := by have := Nat.le_of_succ_le (by simpa using h1 : W2.heap.size + 1 ≤ b); exact this
        omega
  · rw [if_pos (by rfl)]
    refine wp_buildSlice_one 133 141 _ rfl cs 33 rfl HCL.out (by decide) (by decide) j0 _ hu78 hj hy0 hy1 ?_
    refine hK.out _ _ (World.rangeAt_alloc hHeld _) (fun hHeld => ?_)
    clear hK K
    try simp only [Act.put, List.getElem_toArray, List.getElem_cons_zero, List.getElem_cons_succ, List.setIfInBounds_toArray, List.set_cons_zero, List.set_cons_succ]
    refine wpAnyH_ready (rs := [4]) (by kernel_rfl) (by simp) ?_
    refine AllReadyH.cons (o := _) rfl (fun K hK => ?_) AllReadyH.nil
    go_simp
    refine hK.out _ _ hHeld (fun hHeld => ?_)
    clear hK K
    try simp only [Act.put, List.getElem_toArray, List.getElem_cons_zero, List.getElem_cons_succ, List.setIfInBounds_toArray, List.set_cons_zero, List.set_cons_succ]
    refine wpAnyH_ready (rs := [7]) (by kernel_rfl) (by simp) ?_
    refine AllReadyH.cons (o := _) rfl (fun K hK => ?_) AllReadyH.nil
    rw [if_pos (by rfl)]
    refine wp_append_pl _ _ 133 rfl base 141 j0 _ 33 40 hu78 hj hy0 hy1 hy2 rfl (by decide) (.slice ao d.p.length cap) d.p.length (pcells d.p) rfl (row_fr HD2.out.pend ((Fr.drew (S := fun _ => False) _).trans (Fr.alloc _ _)) (fun _ _ => id)) ⟨W2.heap.size, 0, none⟩ 1 1 cs rfl HCL.out (news_at (by simp) rfl) HC1.out (by simp only [maxLen]; omega) (by omega) (by have := HBl.out.size; simp; omega) ?_
    intro v' w' ho hg hpl
    obtain ⟨ao', cap', rfl⟩ := row_shape ho
    have hA := ((Fr.drew (S := fun b => (Value.slice ao d.p.length cap).ownBlock = some b) W2).trans (Fr.alloc _ (.cells cs.toArray 141))).trans (Fr.grown hg)
    have HOb := Lib.hid (rangeAt_fr HD2.out.cells hA HD2.out.ap)
    have HTh := Lib.hid (there_fr HD2.out.there hA HD2.out.ap)
    have HFr := Lib.hid ((Fr.of_below HBl.out (S := ofD g (Value.slice ao d.p.length cap))).transN hA (fun b hb => .inl (.inr hb)))
    have HO := Lib.hid ho
    have HG := Lib.hid hg
    have HPL := Lib.hid hpl
    have hc' := obj_pv HD2.out.ok HOb.out
    have hz' := there_frozen (o := 1664) HTh.out (by decide)
    have hsh : w'.rangeAt w1.heap.size 0 cs := rangeAt_fr hr2 hA (fun e => by have h1 := (HH.out.pend.lt _ e).2; have h2 := hbel.size; omega)
    clear hA ho hg hHeld hpl
    refine hK.out _ _ hsh (fun hHeld => ?_)
    clear hK K
    try simp only [Act.put, List.getElem_toArray, List.getElem_cons_zero, List.getElem_cons_succ, List.setIfInBounds_toArray, List.set_cons_zero, List.set_cons_succ]
    refine wpAnyH_take (i := 8) (oi := _) (v := ?_) rfl (by kernel_rfl) (by kernel_rfl) (by kernel_rfl) (fun _ _ _ h => h) (Or.inl ⟨by rfl, ?_⟩) (by assumption) ?_
    rotate_left
    · intro w hSw
      go_simp
      try with_reducible rfl
    try simp only [Act.put, List.getElem_toArray, List.getElem_cons_zero, List.getElem_cons_succ, List.setIfInBounds_toArray, List.set_cons_zero, List.set_cons_succ]
    refine wpAnyH_take (i := 9) (oi := _) (v := ?_) rfl (by kernel_rfl) (by kernel_rfl) (by kernel_rfl) (fun _ _ _ h => h) (Or.inl ⟨by rfl, ?_⟩) (by assumption) ?_
    rotate_left
    · intro w hSw
      go_simp
      try with_reducible rfl
    try simp only [Act.put, List.getElem_toArray, List.getElem_cons_zero, List.getElem_cons_succ, List.setIfInBounds_toArray, List.set_cons_zero, List.set_cons_succ]
    refine wpAnyH_ready (rs := [10]) (by kernel_rfl) (by simp) ?_
    refine AllReadyH.cons (o := _) rfl (fun K hK => ?_) AllReadyH.nil
    go_simp
    refine hK.out _ _ (rangeAt_fr hsh (Fr.cell (w := w') ⟨g, 1664, none⟩ _) (by show ¬ w1.heap.size = g; omega)) (fun hHeld => ?_)
    clear hK K
    refine wpAnyH_done (by kernel_rfl) ?_ _
    go_wp2
    go_ret
    refine ⟨rfl, .slice ao' (d.p.length + 1) cap', ?_, HFr.out.trans ((Fr.cell (w := w') ⟨g, 1664, none⟩ _).mono (fun b hb => Or.inl hb)), ?_⟩
    · refine IsDisk.setPv (d := d) (p' := d.p ++ [(a, x)]) HD2.out.ge (Nat.lt_of_lt_of_le HH.out.lt HFr.out.size) HD2.out.ok HOb.out HTh.out ?_ ?_ (D.write_ok HD2.out.ok ha HL.out HX.out)
      · rw [List.length_append, pcells_append, pcells_one1, ← HCE.out]
        exact HO.out
      · intro e
        rcases HPL.out g e with h1 | h1
        · exact HH.out.ap h1
        · have h2 : W2.heap.size + 1 ≤ g := by simpa using h1
          have h3 := HD2.out.lt
          omega
    · intro b hb
      rcases HPL.out b hb with h1 | h1
      · exact .inl h1
      · right
        have h2 := HBl.out.size
        have h3 : W2.heap.size ≤ b := by have := Nat.le_of_succ_le (by simpa using h1 : W2.heap.size + 1 ≤ b); exact this
        omega
end Go.Proofs.Ytenjpldinnbcbaa
/- Merged: DiskCr, DiskFl, DiskR, DiskFa. -/

/- The walk of disk's Crash. -/

namespace Go.Proofs.Ytenjpldinnbcbaa
open Go.RowKit
set_option linter.unusedVariables false
set_option linter.unusedSimpArgs false
set_option maxRecDepth 100000
set_option maxHeartbeats 1000000
attribute [local go_sem ↓] Go.wp_at_zero Go.wp_at_succ

theorem kept_succ : ∀ (p : List (Nat × List Nat)) (ks : List Bool) (k : Nat) (v : Nat × List Nat), p[k]? = some v → D.kept (p.take (k + 1)) ks = D.kept (p.take k) ks ++ (if ks[k]? = some true then [v] else [])
  | [], _, k, v, h => by simp at h
  | w :: p, [], k, v, h => by cases k <;> simp [D.kept]
  | w :: p, b :: ks, 0, v, h => by
    simp at h
    subst h
    cases b <;> simp [D.kept]
  | w :: p, b :: ks, k + 1, v, h => by
    have ih := kept_succ p ks k v (by simpa using h)
    rw [List.take_succ_cons, List.take_succ_cons]
    unfold D.kept
    rw [ih]
    cases b <;> simp
def dkC (d : D.Dk) (ks : List Bool) (k : Nat) : D.Dk := { d with l := D.apply d.l (D.kept (d.p.take k) ks) }
theorem dkC_zero (d : D.Dk) (ks : List Bool) : dkC d ks 0 = d := rfl
theorem dkC_yes {d : D.Dk} {ks : List Bool} {k : Nat} {v : Nat × List Nat} (h : d.p[k]? = some v) (hk : ks[k]? = some true) : { dkC d ks k with l := (dkC d ks k).l.set v.1 v.2 } = dkC d ks (k + 1) := by
  unfold dkC D.apply
  rw [kept_succ _ _ _ _ h, if_pos hk, List.foldl_append]
  rfl
theorem dkC_no {d : D.Dk} {ks : List Bool} {k : Nat} {v : Nat × List Nat} (h : d.p[k]? = some v) (hk : ks[k]? ≠ some true) : dkC d ks k = dkC d ks (k + 1) := by
  unfold dkC
  rw [kept_succ _ _ _ _ h, if_neg hk, List.append_nil]
theorem dkC_end (d : D.Dk) (ks : List Bool) : { dkC d ks d.p.length with p := [] } = D.crash d ks := by
  unfold dkC D.crash
  rw [List.take_length]
theorem Bools.get {w : World} {ao : Option Addr} {n cap : Nat} {l : List Bool} (h : Bools w (.slice ao n cap) l) {k : Nat} (hk : k < n) :
    ∃ b off x, ao = some ⟨b, off, none⟩ ∧ w.cell? ⟨b, off + k, none⟩ = some (.bool x) ∧ Hid (l[k]? = some x) := by
  obtain ⟨ao', cap', e, h1, h2, h0, hA⟩ := h
  cases e
  obtain ⟨b, off, c, rfl, hc, hk2⟩ := hA.cell (k := k) (by simpa using hk)
  rw [List.getElem?_map, List.getElem?_eq_getElem hk] at hk2
  simp only [Option.map_some, Option.some.injEq] at hk2
  exact ⟨b, off, l[k], rfl, by rw [hc, ← hk2]; rfl, List.getElem?_eq_getElem hk⟩
theorem Bools.shape {w : World} {v : Value} {l : List Bool} (h : Bools w v l) : ∃ ao cap, v = .slice ao l.length cap ∧ l.length ≤ cap ∧ cap ≤ 9223372036854775807 := by
  obtain ⟨ao, cap, rfl, h1, h2, _⟩ := h
  exact ⟨ao, cap, rfl, h1, h2⟩
theorem Bools.fr {S : Nat → Prop} {w w' : World} {v : Value} {l : List Bool} (h : Bools w v l) (k : Fr S w w') (hb : ∀ g, v.ownBlock = some g → ¬ S g) : Bools w' v l := by
  obtain ⟨ao, cap, rfl, h1, h2, h0, h4⟩ := h
  refine ⟨ao, cap, rfl, h1, h2, h0, ?_⟩
  rcases h4 with h4 | ⟨b, off, rfl, hlt, hc⟩
  · exact .inl h4
  · exact .inr ⟨b, off, rfl, Nat.lt_of_lt_of_le hlt k.size, fun i hi => by rw [World.cell?_of_block (k.block b hlt (hb b rfl))]; exact hc i hi⟩
end Go.Proofs.Ytenjpldinnbcbaa
/- The walk of disk's Flush. -/

namespace Go.Proofs.Ytenjpldinnbcbaa
open Go.RowKit
set_option linter.unusedVariables false
set_option linter.unusedSimpArgs false
set_option maxRecDepth 100000
set_option maxHeartbeats 1000000
attribute [local go_sem ↓] Go.wp_at_zero Go.wp_at_succ

def dkN (d : D.Dk) (k : Nat) : D.Dk := { d with l := D.apply d.l (d.p.take k) }
theorem dkN_zero (d : D.Dk) : dkN d 0 = d := rfl
theorem dkN_succ {d : D.Dk} {k : Nat} {v : Nat × List Nat} (h : d.p[k]? = some v) : { dkN d k with l := (dkN d k).l.set v.1 v.2 } = dkN d (k + 1) := by
  unfold dkN D.apply
  rw [take_succ_get h, List.foldl_append]
  rfl
theorem dkN_end (d : D.Dk) : { dkN d d.p.length with p := [] } = D.flush d := by
  unfold dkN D.flush
  rw [List.take_length]
theorem flush_any (w : World) (base g : Nat) (pv : Value) (d : D.Dk) (h : IsDisk w base g pv d) (hf : d.f = false) :
    Calls Try.prog 96 #[.pointer (some ⟨g, 0, none⟩)] w fun e w' => e = .returned (.int .i64 0) ∧ IsDisk w' base g (.slice none 0 0) (D.flush d) ∧ Fr (fun b => b = g) w w' := by
  obtain ⟨hz82, hi82⟩ := zero_of_info write_info
  have hy := (zero_of_info sec_info).2
  have hp := h.pv_cell
  have hfc := h.f_cell
  rw [hf] at hfc
  obtain ⟨Z2, hZ2⟩ : ∃ Z2, Z2 = (wcells (0, List.replicate 32 0)).toArray := ⟨_, rfl⟩
  have HZS2 : Hid (Z2.size = 33) := by show Z2.size = 33; rw [hZ2]; rfl
  rw [← hZ2] at hz82
  clear hZ2
  have HI2 := Lib.hid hi82
  have HI := Lib.hid hy
  clear hi82 hy
  obtain ⟨ao, cap, rfl, hq1, hq2⟩ := h.pshape
  have HH := Lib.hid h
  have h0 := h
  clear h
  go_enter Try.func96, Try.ntmps96
  go_wp2
  go_loopw [14] (fun i w' => ∃ k : Nat, k ≤ d.p.length ∧ i = .int .i64 k ∧ Hid (IsDisk w' base g (.slice ao d.p.length cap) (dkN d k)) ∧ Hid (Fr (fun b => b = g) w w')) (fun i _ => d.p.length - (intOf i).toNat)
  case atStart => exact ⟨0, Nat.zero_le _, rfl, Lib.hid h0, Lib.hid (Fr.refl _ _)⟩
  case round =>
    obtain ⟨k, hk, rfl, hD, hF⟩ := hrel
    by_cases hlt : k < d.p.length
    · obtain ⟨v, hv⟩ : ∃ v, d.p[k]? = some v := ⟨_, List.getElem?_eq_getElem hlt⟩
      obtain ⟨b, rfl, hb1, hb2, hb3, hb4, hb5⟩ := hD.out.pend_at hv
      have HP := Lib.hid hb2
      have HWL := Lib.hid (wcells_len hb3)
      have HWS : Hid ((wcells v).toArray.size = 33) := by show (wcells v).toArray.size = 33; rw [List.size_toArray]; exact HWL.out
      have HN := Lib.hid (dkN_succ hv)
      have hgl : g < wr.heap.size := hD.out.lt
      obtain ⟨W2, hW2⟩ : ∃ W2, W2 = wr.alloc (.cells (wcells v).toArray 141) := ⟨_, rfl⟩
      have HC0 : Hid (W2.cell? ⟨wr.heap.size, 0, none⟩ = some (.int .i64 (v.1 : Nat))) := by
        show W2.cell? _ = _
        rw [hW2, cell_of_row _ _ 0 _ _ _ (heap_alloc_new wr _)]; rfl
      have HC1 : Hid (W2.rangeAt wr.heap.size 1 (v.2.map u8v)) := by
        rw [hW2]
        intro j u hu
        rw [cell_of_row _ _ _ _ _ _ (heap_alloc_new wr _), Nat.add_comm 1 j]
        simpa [wcells] using hu
      have HDD : Hid (IsDisk W2 base g (.slice (some ⟨b, 0, none⟩) d.p.length cap) (dkN d k)) := by rw [hW2]; exact hD.out.up (belA1 (belR wr))
      have HT : Hid (W2.there g (v.1 * 32) 32) := HDD.out.sec_there hb4
      have HFF : Hid (Fr (fun b => b = g) w W2) := by rw [hW2]; exact hF.out.trans (Fr.alloc _ _)
      have HV3 := Lib.hid hb3
      have HV5 := Lib.hid hb5
      have HVL : Hid ((v.2.map u8v).length = 32) := by show (v.2.map u8v).length = 32; rw [List.length_map]; exact hb3
      have HW2 := Lib.hid hW2
      clear hv hb2 hb5 hb1 hb3 hW2
      go_wp2_with (first
          | (refine wpList_load_mid rfl 141 _ rfl b (k * 33) rfl (wcells v) _ HP.out Try.underlying141 rfl (by rw [HWL.out]; exact HI2.out) ?_)
          | (refine wpList_store_new rfl 141 _ _ rfl wr.heap.size wr rfl Z2 (wcells v).toArray rfl rfl rfl (by rw [HWS.out]; exact HI2.out) (by rw [HZS2.out, HWS.out]) (all_oneCell_toArray (wcells_one v)) ?_)
          | fail)
      rw [← HW2.out]
      have hb40 : (0 : Int) ≤ (v.1 : Int) := by omega
      have hb41 : (v.1 : Int) < 52 := by omega
      have hu76 := Try.underlying131
      have hy1 := HI.out
      have hy2 : (Try.prog.info? 131).map (·.size) = some (v.2.map u8v).length := by rw [HVL.out]; exact HI.out
      have hl1 := HVL.out
      have hon := u8v_one v.2
      go_region_held3 (fun w' => w'.cell? ⟨wr.heap.size, 0, none⟩ = some (.int .i64 (v.1 : Nat)) ∧ w'.rangeAt wr.heap.size 1 (v.2.map u8v) ∧ w'.there g (v.1 * 32) 32)
        ((go_split_ands; (try refine ⟨?_, ?_, ?_⟩) <;> first | assumption | (refine cell_cells ?_ ?_ <;> first | assumption | omega) | (refine rangeAt_cells ?_ ?_ <;> first | assumption | omega) | (apply World.there_setCells; assumption)))
        (fail)
      all_goals
        go_wp2
        go_roundw
        case rel =>
          refine ⟨k + 1, by omega, by go_num, Lib.hid ?_, Lib.hid ?_⟩
          · rw [← HN.out]
            exact (HDD.out.up (belDr (belR _))).setSec hb4 HV3.out HV5.out
          · exact (HFF.out.trans (Fr.drew _)).trans (Fr.cells _ _ _ _)
        case measure => simp [intOf]; omega
    · have hke : k = d.p.length := by omega
      subst hke
      have hD1 := hD.out
      have hE : Hid (IsDisk (wr.setCell ⟨g, 1664, none⟩ (.slice none 0 0)) base g (.slice none 0 0) (D.flush d)) := by
        have := hD1.clearPv
        rw [dkN_end] at this
        exact this
      have hpc := hD1.pv_cell
      have hzf : wr.frozen? ⟨g, 1664, none⟩ = false := by
        have := (hD1.there 1664 (by decide)).2
        rwa [Nat.zero_add] at this
      clear hD1
      go_wp2
      go_ret
      exact ⟨rfl, hE.out, hF.out.trans (Fr.cell (w := wr) ⟨g, 1664, none⟩ _)⟩
theorem flush_no (w : World) (base g : Nat) (pv : Value) (d : D.Dk) (h : IsDisk w base g pv d) (hf : d.f = true) :
    Calls Try.prog 96 #[.pointer (some ⟨g, 0, none⟩)] w fun e w' => e = .returned (.int .i64 5) ∧ w = w' := by
  have hfc := h.f_cell
  rw [hf] at hfc
  clear h
  go_enter Try.func96, Try.ntmps96
  go_wp2
  go_ret
  exact ⟨rfl, rfl⟩
end Go.Proofs.Ytenjpldinnbcbaa
/- The walk of disk.Read where nothing stands against it. -/

namespace Go.Proofs.Ytenjpldinnbcbaa
open Go.RowKit
set_option linter.unusedVariables false
set_option linter.unusedSimpArgs false
set_option maxRecDepth 100000
set_option maxHeartbeats 1000000

def lookN (d : D.Dk) (a k : Nat) : List Nat := (d.p.take k).foldl (fun b w => if w.1 = a then w.2 else b) (d.l.getD a [])
theorem lookN_zero (d : D.Dk) (a : Nat) : lookN d a 0 = d.l.getD a [] := rfl
theorem lookN_end (d : D.Dk) (a : Nat) : lookN d a d.p.length = D.look d a := by unfold lookN D.look; rw [List.take_length]
theorem lookN_succ {d : D.Dk} {a k : Nat} {v : Nat × List Nat} (h : d.p[k]? = some v) : lookN d a (k + 1) = if v.1 = a then v.2 else lookN d a k := by
  unfold lookN
  rw [take_succ_get h, List.foldl_append]
  rfl
theorem lookN_len {d : D.Dk} (h : D.Ok d) {a : Nat} (ha : a < 52) (k : Nat) : (lookN d a k).length = 32 := by
  have h2 : D.Ok { d with p := d.p.take k } := ⟨h.len, h.sec, h.byt, fun w hw => h.pat w (List.mem_of_mem_take hw), fun w hw => h.psec w (List.mem_of_mem_take hw), fun w hw => h.pbyt w (List.mem_of_mem_take hw)⟩
  exact (D.look_ok h2 ha).1
theorem read_yes (w : World) (base g : Nat) (pv : Value) (d : D.Dk) (a : Nat) (h : IsDisk w base g pv d) (hf : d.f = false) (ha : a < 52) :
    Calls Try.prog 65 #[.pointer (some ⟨g, 0, none⟩), .int .i64 a] w fun e w' => ∃ v, e = .returned (.tuple #[v, .int .i64 0]) ∧ Own w' w.heap.size v (D.look d a) ∧ Below w.heap.size w w' := by
  have hc := may_any w base g pv d a h
  have hm : D.may d a = 0 := by
    unfold D.may
    rw [hf, if_neg (by decide), if_neg (by omega)]
  rw [hm] at hc
  have HC := Lib.hid hc
  clear hc hm
  obtain ⟨hz76, hi76⟩ := zero_of_info sec_info
  obtain ⟨hz82, hi82⟩ := zero_of_info write_info
  have hp := h.pv_cell
  have HR := Lib.hid (h.sector ha)
  have hp1 : (w.alloc (.cells ((lookN d a 0).map u8v).toArray 131)).cell? ⟨g, 1664, none⟩ = some pv := cell_fr hp (Fr.alloc (S := fun _ => False) w _) id
  obtain ⟨Z, hZ⟩ : ∃ Z, Z = (List.replicate 32 (u8v 0)).toArray := ⟨_, rfl⟩
  have HZS : Hid (Z.size = 32) := by show Z.size = 32; rw [hZ]; rfl
  rw [← hZ] at hz76
  clear hZ
  obtain ⟨Z2, hZ2⟩ : ∃ Z2, Z2 = (wcells (0, List.replicate 32 0)).toArray := ⟨_, rfl⟩
  have HZS2 : Hid (Z2.size = 33) := by show Z2.size = 33; rw [hZ2]; rfl
  rw [← hZ2] at hz82
  clear hZ2
  have HI := Lib.hid hi76
  have HI2 := Lib.hid hi82
  have hL : ∀ k, (lookN d a k).length = 32 := lookN_len h.ok ha
  have HL := Lib.hid hL
  clear hi76 hi82 hL
  obtain ⟨ao, cap, rfl, hq1, hq2⟩ := h.pshape
  have HH := Lib.hid h
  clear h
  go_enter Try.func65, Try.ntmps65
  go_wp2_with fail
  refine Calls.mono HC.out ?_
  rintro e w1 ⟨rfl, rfl⟩
  go_wp2_with (first
    | (refine wpList_load_mid rfl 131 _ rfl g (a * 32) rfl ((lookN d a 0).map u8v) _ HR.out Try.underlying131 rfl (by rw [List.length_map, HL.out]; exact HI.out) ?_)
    | (refine wpList_store_new rfl 131 _ _ rfl w.heap.size w rfl Z ((lookN d a 0).map u8v).toArray rfl rfl rfl (by rw [List.size_toArray, List.length_map, HL.out]; exact HI.out) (by rw [HZS.out, List.size_toArray, List.length_map, HL.out]) (all_oneCell_toArray (u8v_one _)) ?_)
    | fail)
  clear hp1 hp
  go_loopw [27] (fun i w' => ∃ k : Nat, k ≤ d.p.length ∧ i = .int .i64 k ∧ Hid (Box w' w.heap.size ((lookN d a k).map u8v)) ∧ Below w.heap.size w w' ∧ w.heap.size < w'.heap.size) (fun i _ => d.p.length - (intOf i).toNat)
  case atStart => exact ⟨0, Nat.zero_le _, rfl, Lib.hid (Box.new w _ _), belA1 (belR w), by simp⟩
  case round =>
    obtain ⟨k, hk, rfl, hB, hW, hsz⟩ := hrel
    by_cases hlt : k < d.p.length
    · obtain ⟨v, hv⟩ : ∃ v, d.p[k]? = some v := ⟨_, List.getElem?_eq_getElem hlt⟩
      obtain ⟨b, rfl, hb1, hb2, hb3, hb4, hb5⟩ := HH.out.pend_at hv
      have HP : Hid (wr.rangeAt b (k * 33) (wcells v)) := Lib.hid (rangeAt_fr hb2 (Fr.of_below (S := fun _ => False) hW) id)
      have hwl := wcells_len hb3
      have HWL := Lib.hid hwl
      have HN : Hid (lookN d a (k + 1) = if v.1 = a then v.2 else lookN d a k) := lookN_succ hv
      have hcell : (wr.alloc (.cells (wcells v).toArray 141)).cell? ⟨wr.heap.size, 0, none⟩ = some (.int .i64 (v.1 : Nat)) := by
        rw [cell_of_row _ _ 0 _ _ _ (heap_alloc_new wr _)]; rfl
      have HB2 : Hid (Box (wr.alloc (.cells (wcells v).toArray 141)) w.heap.size ((lookN d a k).map u8v)) := hB.out.fr (Fr.alloc (S := fun _ => False) wr _) id
      have HV2 : Hid ((wr.alloc (.cells (wcells v).toArray 141)).rangeAt wr.heap.size 1 (v.2.map u8v)) := fun j u hu => by
        rw [cell_of_row _ _ _ _ _ _ (heap_alloc_new wr _), Nat.add_comm 1 j]
        simpa [wcells] using hu
      have HV3 := Lib.hid hb3
      have HVS : Hid ((v.2.map u8v).toArray.size = 32) := map_size hb3
      have HTH : Hid ((wr.alloc (.cells (wcells v).toArray 141)).there w.heap.size 0 32) := by
        have := HB2.out.there
        rw [List.length_map, HL.out] at this
        exact this
      clear hwl hv hb2 hb5 hb1 hb3
      by_cases heq : v.1 = a
      · have hbb : ((v.1 : Int) == (a : Int)) = true := by rw [heq]; simp
        have HE := Lib.hid heq
        clear heq
        go_wp2_with (first
          | (refine wpList_load_mid rfl 141 _ rfl b (k * 33) rfl (wcells v) _ HP.out Try.underlying141 rfl (by rw [HWL.out]; exact HI2.out) ?_)
          | (refine wpList_store_new rfl 141 _ _ rfl wr.heap.size wr rfl Z2 (wcells v).toArray rfl rfl rfl (by rw [List.size_toArray, HWL.out]; exact HI2.out) (by rw [HZS2.out, List.size_toArray, HWL.out]) (all_oneCell_toArray (wcells_one v)) ?_)
          | (refine wpList_load_mid rfl 131 _ rfl wr.heap.size 1 rfl (v.2.map u8v) _ HV2.out Try.underlying131 rfl (by rw [List.length_map, HV3.out]; exact HI.out) ?_)
          | (refine wpList_store_mid rfl 131 _ _ rfl w.heap.size 0 (v.2.map u8v).toArray rfl rfl (by rw [HVS.out]; exact HTH.out) (by rw [HVS.out]; exact HI.out) (all_oneCell_toArray (u8v_one _)) ?_)
          | fail)
        go_roundw
        case rel =>
          refine ⟨k + 1, by omega, by go_num, Lib.hid ?_, ?_, ?_⟩
          · rw [HN.out, if_pos HE.out]
            exact HB2.out.store (by simp [HV3.out, HL.out])
          · exact Fr.below (S := fun b => b = w.heap.size) (belAlloc hW _) (Fr.cells _ _ _ _) (by simp; omega) (fun i hi => by omega)
          · have := (Fr.cells (wr.alloc (.cells (wcells v).toArray 141)) w.heap.size 0 (v.2.map u8v)).size
            simp only [World.alloc] at this
            simp only [Array.size_push] at this
            exact Nat.lt_of_lt_of_le (by omega) this
        case measure => simp [intOf]; omega
      · have hbb : ((v.1 : Int) == (a : Int)) = false := by rw [beq_eq_false_iff_ne]; omega
        have HE := Lib.hid heq
        clear heq
        go_wp2_with (first
          | (refine wpList_load_mid rfl 141 _ rfl b (k * 33) rfl (wcells v) _ HP.out Try.underlying141 rfl (by rw [HWL.out]; exact HI2.out) ?_)
          | (refine wpList_store_new rfl 141 _ _ rfl wr.heap.size wr rfl Z2 (wcells v).toArray rfl rfl rfl (by rw [List.size_toArray, HWL.out]; exact HI2.out) (by rw [HZS2.out, List.size_toArray, HWL.out]) (all_oneCell_toArray (wcells_one v)) ?_)
          | fail)
        go_roundw
        case rel =>
          refine ⟨k + 1, by omega, by go_num, Lib.hid ?_, belAlloc hW _, by simp; omega⟩
          rw [HN.out, if_neg HE.out]
          exact HB2.out
        case measure => simp [intOf]; omega
    · have hke : k = d.p.length := by omega
      have HBy : Hid (Byt wr (.slice (some ⟨w.heap.size, 0, none⟩) 32 32) (D.look d a)) := by
        have h1 := hB.out
        rw [hke, lookN_end] at h1
        have h2 := D.look_ok HH.out.ok ha
        exact Byt.mk h2.1.symm (Nat.le_refl _) (by decide) (fun e => by cases e) h2.2 (h1.at hsz)
      have HL2 : Hid ((D.look d a).length = 32) := (D.look_ok HH.out.ok ha).1
      clear hke
      go_wp2_with (refine Calls.mono (clone_bytes _ _ _ HBy.out HL2.out) ?_; rintro e w3 ⟨v3, rfl, hO3, hb3⟩)
      go_ret2
      exact ⟨_, rfl, own_mono hO3 hW.size, belT hW hb3⟩
end Go.Proofs.Ytenjpldinnbcbaa
/- The walk of disk's Fail. -/

namespace Go.Proofs.Ytenjpldinnbcbaa
open Go.RowKit
set_option linter.unusedVariables false
set_option linter.unusedSimpArgs false
set_option maxRecDepth 100000
set_option maxHeartbeats 1000000

theorem built_fail : Try.prog.built 135 [(2, .bool true)] = some (dcells D.fail (.slice none 0 0)).toArray := by kernel_rfl
theorem disk_size : (Try.prog.info? 135).map (·.size) = some 1666 := by kernel_rfl
theorem fail_any (w : World) (base g : Nat) (pv : Value) (d : D.Dk) (h : IsDisk w base g pv d) :
    Calls Try.prog 61 #[.pointer (some ⟨g, 0, none⟩)] w fun e w' => e = .returned (.tuple #[]) ∧ IsDisk w' base g (.slice none 0 0) D.fail ∧ Fr (fun b => b = g) w w' := by
  have hbd := built_fail
  obtain ⟨C, hC⟩ : ∃ C, C = dcells D.fail (.slice none 0 0) := ⟨_, rfl⟩
  have hl : C.length = 1666 := by rw [hC]; decide +kernel
  have h1 : ∀ u ∈ C, u.oneCell' = true := by
    rw [hC]
    unfold dcells
    intro u hu
    rcases List.mem_append.1 hu with h1 | h1
    · exact u8v_one _ u h1
    · cases h1 with
      | head => rfl
      | tail _ h1 => rw [List.mem_singleton.1 h1]; rfl
  rw [← hC] at hbd
  have HS : Hid (C.toArray.size = 1666) := by show C.toArray.size = 1666; rw [List.size_toArray]; exact hl
  have H1 := Lib.hid h1
  have HT := Lib.hid h.there
  have hD : Hid (IsDisk (w.setCells g 0 C) base g (.slice none 0 0) D.fail) := by
    refine ⟨h.ge, Nat.lt_of_lt_of_le h.lt (Fr.cells w g 0 C).size, ?_, World.there_setCells h.there _ _ _, World.ownsRow_nil _ _ _ _, D.fail_ok, by intro e; cases e⟩
    rw [← hC]
    exact World.rangeAt_setCells_same _ _ _ _ (by rw [hl]; exact h.there)
  have HSz := Lib.hid disk_size
  have HB := Lib.hid hbd
  clear h hC hl h1 hbd
  go_enter Try.func61, Try.ntmps61
  go_wp2_with (first
    | (refine wpList_build_as rfl 135 _ rfl C.toArray HB.out ?_)
    | (refine wpList_store_mid rfl 135 _ _ rfl g 0 C.toArray rfl rfl (by rw [HS.out]; exact HT.out) (by rw [HS.out]; exact HSz.out) (all_oneCell_toArray H1.out) ?_)
    | fail)
  go_end0
  exact ⟨rfl, hD.out, Fr.cells _ _ _ _⟩
end Go.Proofs.Ytenjpldinnbcbaa
/- Merged: DiskD, DiskDf, DiskDm. -/

/- The walks of slices.IndexFunc and slices.DeleteFunc on writes, as disk's Damage calls them. -/

namespace Go.Proofs.Ytenjpldinnbcbaa
open Go.RowKit
set_option linter.unusedVariables false
set_option linter.unusedSimpArgs false
set_option maxRecDepth 100000
set_option maxHeartbeats 1000000

/-- block b is a row of m cells, of elements e -/
def RowAt (w : World) (b : Nat) (e : TypeId) (m : Nat) : Prop := ∃ cur, w.heap[b]? = some (.cells cur e (0, 0)) ∧ cur.size = m
theorem RowAt.setCells {e : TypeId} {m b : Nat} (b' : Nat) : ∀ (vs : List Value) (o : Nat) {w : World}, RowAt w b e m → RowAt (w.setCells b' o vs) b e m
  | [], _, _, h => h
  | v :: vs, o, w, h => by
    rw [World.setCells]
    refine RowAt.setCells b' vs (o + 1) ?_
    obtain ⟨cur, h1, h2⟩ := h
    by_cases hb : b = b'
    · subst hb
      refine ⟨cur.setIfInBounds o v, ?_, by simpa using h2⟩
      simp [World.setCell, Array.getElem?_modify, h1]
    · refine ⟨cur, ?_, h2⟩
      rw [Below.heap_setCell _ _ _ _ (by simpa using hb)]
      exact h1
theorem RowAt.fr {S : Nat → Prop} {w w' : World} {b m : Nat} {e : TypeId} (h : RowAt w b e m) (k : Fr S w w') (hb : ¬ S b) : RowAt w' b e m := by
  obtain ⟨cur, h1, h2⟩ := h
  exact ⟨cur, by rw [k.block b (lt_of_block h1) hb]; exact h1, h2⟩
theorem RowAt.there {w : World} {b m : Nat} {e : TypeId} (h : RowAt w b e m) : w.there b 0 m := by
  obtain ⟨cur, h1, h2⟩ := h
  intro j hj
  refine ⟨?_, ?_⟩
  · rw [Nat.zero_add, cell_of_row w b j cur _ _ h1, Array.getElem?_eq_getElem (by omega)]
    rfl
  · unfold World.frozen?
    show (match w.heap[b]? with | some (.cells _ _ (lo, hi)) => _ | _ => _) = _
    rw [h1]
    simp
theorem RowAt.own {w : World} {base b n cap size : Nat} {e : TypeId} {xs : List Value} (h : RowAt w b e (cap * size)) (hr : w.rangeAt b 0 xs) (hl : xs.length = n * size) (hb : base ≤ b) (hn : n ≤ cap) (hc : cap ≤ maxLen) :
    w.ownsRow base e size (.slice (some ⟨b, 0, none⟩) n cap) n xs := by
  obtain ⟨cur, h1, h2⟩ := h
  refine ⟨hl, .inr ⟨b, cap, cur, rfl, hb, h1, hn, hc, h2, ?_⟩⟩
  apply List.ext_getElem?
  intro j
  have hle : n * size ≤ cap * size := Nat.mul_le_mul_right _ hn
  have hcl : cur.toList.length = cap * size := by rw [Array.length_toList]; exact h2
  by_cases hj : j < n * size
  · have h3 := hr j xs[j] (List.getElem?_eq_getElem (by omega))
    rw [Nat.zero_add, cell_of_row w b j cur _ _ h1] at h3
    rw [List.getElem?_take_of_lt hj, Array.getElem?_toList, h3, List.getElem?_eq_getElem (by omega)]
  · rw [List.getElem?_eq_none (by rw [List.length_take]; omega), List.getElem?_eq_none (by omega)]
theorem RowAt.of_own {w : World} {base b n cap size : Nat} {e : TypeId} {xs : List Value} (h : w.ownsRow base e size (.slice (some ⟨b, 0, none⟩) n cap) n xs) : RowAt w b e (cap * size) ∧ w.rangeAt b 0 xs ∧ n ≤ cap ∧ cap ≤ maxLen := by
  obtain ⟨hl, h⟩ := h
  rcases h with ⟨e, _⟩ | ⟨b', cap', cur, e, h1, h2, h3, h4, h5, h6⟩
  · cases e
  · cases e
    refine ⟨⟨cur, h2, h5⟩, fun j v hj => ?_, h3, h4⟩
    rw [← h6] at hj
    have hlt := (List.getElem?_eq_some_iff.1 hj).1
    rw [List.length_take] at hlt
    rw [List.getElem?_take_of_lt (by omega)] at hj
    rw [Nat.zero_add, cell_of_row w b j cur _ _ h2]
    simpa using hj
/-- the closure: is the write at the place? -/
theorem dmg1_any (w : World) (v : Nat × List Nat) (hl : v.2.length = 32) (b4 : Nat) (a : Int) (hc : w.cell? ⟨b4, 0, none⟩ = some (.int .i64 a)) :
    Calls Try.prog 111 #[.agg (wcells v).toArray, .pointer (some ⟨b4, 0, none⟩)] w fun e w' => e = .returned (.bool (decide ((v.1 : Int) = a))) ∧ Below w.heap.size w w' := by
  have hc2 : (w.alloc (.cells (wcells v).toArray 141)).cell? ⟨b4, 0, none⟩ = some (.int .i64 a) := cell_fr hc (Fr.alloc (S := fun _ => False) _ _) id
  have hc3 : (w.alloc (.cells (wcells v).toArray 141)).cell? ⟨w.heap.size, 0, none⟩ = some (.int .i64 (v.1 : Nat)) := by
    rw [cell_of_row _ _ 0 _ _ _ (heap_alloc_new w _)]; rfl
  obtain ⟨cs, hcs⟩ : ∃ cs, cs = wcells v := ⟨_, rfl⟩
  rw [← hcs] at hc2 hc3 ⊢
  clear hcs hc
  go_enter Try.func111, Try.ntmps111
  go_wp2
  go_ret
  exact ⟨by congr 2, belA1 (belR w)⟩
theorem call_dmg1 (args : Array Value) (w : World) : (callFunc 111 args).run Try.prog w = .ok (.enter 111 args) w := by
  simp [callFunc, go_sem, Try.func111, Try.f111]
theorem pcells_range {w : World} {b : Nat} {p : List (Nat × List Nat)} (h : w.rangeAt b 0 (pcells p)) (hs : ∀ v ∈ p, v.2.length = 32) {k : Nat} {v : Nat × List Nat} (hv : p[k]? = some v) : w.rangeAt b (k * 33) (wcells v) := fun j u hu => by
  have := h (k * 33 + j) u (pcells_get hs hv j u hu)
  rwa [Nat.zero_add] at this
theorem indexf_any (w : World) (p : List (Nat × List Nat)) (ao : Option Addr) (cap b4 : Nat) (a : Int) (h1 : p.length ≤ cap) (h2 : cap ≤ 9223372036854775807) (hr : ∀ k v, p[k]? = some v → ∃ b, ao = some ⟨b, 0, none⟩ ∧ w.rangeAt b (k * 33) (wcells v)) (hs : ∀ v ∈ p, v.2.length = 32) (hc : w.cell? ⟨b4, 0, none⟩ = some (.int .i64 a)) :
    Calls Try.prog 120 #[.slice ao p.length cap, .func (.func 111) #[] #[.pointer (some ⟨b4, 0, none⟩)]] w fun e w' =>
      ∃ r, e = .returned (.int .i64 r) ∧ Below w.heap.size w w' ∧ ((r = -1 ∧ ∀ v ∈ p, (v.1 : Int) ≠ a) ∨ ∃ k : Nat, r = k ∧ k < p.length ∧ (∀ v ∈ p.take k, (v.1 : Int) ≠ a) ∧ ∀ v, p[k]? = some v → (v.1 : Int) = a) := by
  have hi82 := (zero_of_info write_info).2
  have HI := Lib.hid hi82
  have HR := Lib.hid hr
  have HS := Lib.hid hs
  have HC := Lib.hid hc
  have hE := call_dmg1
  clear hi82 hr hs hc
  go_enter Try.func120, Try.ntmps120
  go_wp2
  go_loopw [8] (fun i w' => ∃ k : Nat, k ≤ p.length ∧ i = .int .i64 k ∧ Hid (∀ v ∈ p.take k, (v.1 : Int) ≠ a) ∧ Below w.heap.size w w') (fun i _ => p.length - (intOf i).toNat)
  case atStart => exact ⟨0, Nat.zero_le _, rfl, Lib.hid (fun v hv => by simp at hv), belR w⟩
  case round =>
    obtain ⟨k, hk, rfl, hN, hW⟩ := hrel
    by_cases hlt : k < p.length
    · obtain ⟨v, hv⟩ : ∃ v, p[k]? = some v := ⟨_, List.getElem?_eq_getElem hlt⟩
      have hv3 : v.2.length = 32 := HS.out v (List.mem_of_getElem? hv)
      have HWL := Lib.hid (wcells_len hv3)
      obtain ⟨b, rfl, hrb⟩ := HR.out k v hv
      have HP : Hid (wr.rangeAt b (k * 33) (wcells v)) := rangeAt_fr hrb (Fr.of_below (S := fun _ => False) hW) id
      clear hrb
      have HC2 : Hid (wr.cell? ⟨b4, 0, none⟩ = some (.int .i64 a)) := cell_fr HC.out (Fr.of_below (S := fun _ => False) hW) id
      have HV := Lib.hid hv
      have HV3 := Lib.hid hv3
      have HT : Hid (p.take (k + 1) = p.take k ++ [v]) := take_succ_get hv
      clear hv hv3
      go_wp2_with (first
        | (refine wpList_load_mid rfl 141 _ rfl b (k * 33) rfl (wcells v) _ HP.out Try.underlying141 rfl (by rw [HWL.out]; exact HI.out) ?_)
        | fail)
      refine Calls.mono (dmg1_any wr v HV3.out b4 a HC2.out) ?_
      rintro e w2 ⟨rfl, hb2⟩
      by_cases heq : (v.1 : Int) = a
      · rw [decide_eq_true heq]
        have HE := Lib.hid heq
        clear heq
        go_wp2
        go_ret
        exact ⟨_, rfl, belT hW hb2, .inr ⟨k, rfl, hlt, hN.out, fun u hu => by rw [HV.out] at hu; cases hu; exact HE.out⟩⟩
      · rw [decide_eq_false heq]
        have HE := Lib.hid heq
        clear heq
        go_wp2
        go_roundw
        case rel =>
          refine ⟨k + 1, by omega, by go_num, Lib.hid ?_, belT hW hb2⟩
          rw [HT.out]
          intro u hu
          rcases List.mem_append.1 hu with h | h
          · exact hN.out u h
          · rw [List.mem_singleton.1 h]; exact HE.out
        case measure => simp [intOf]; omega
    · have hke : k = p.length := by omega
      have HK := Lib.hid hke
      clear hke
      go_wp2
      go_ret
      refine ⟨_, rfl, hW, .inl ⟨rfl, fun v hv => hN.out v ?_⟩⟩
      rw [HK.out, List.take_length]
      exact hv
theorem pcells_split {q : List (Nat × List Nat)} (h : ∀ v ∈ q, v.2.length = 32) : ∀ {i : Nat} {u : Nat × List Nat}, q[i]? = some u → ∃ A C, A.length = i * 33 ∧ pcells q = A ++ (wcells u ++ C) ∧ ∀ v, pcells (q.set i v) = A ++ (wcells v ++ C) := by
  induction q with
  | nil => intro i u hu; simp at hu
  | cons x q ih =>
    intro i u hu
    have hx := wcells_len (h x (.head _))
    cases i with
    | zero =>
      simp at hu
      subst hu
      exact ⟨[], pcells q, by simp, by unfold pcells; simp, fun v => by unfold pcells; simp⟩
    | succ i =>
      obtain ⟨A, C, h1, h2, h3⟩ := ih (fun v hv => h v (.tail _ hv)) (i := i) (u := u) (by simpa using hu)
      refine ⟨wcells x ++ A, C, by rw [List.length_append, hx, h1]; omega, ?_, fun v => ?_⟩
      · unfold pcells at h2 ⊢
        rw [List.flatMap_cons, h2, List.append_assoc]
      · have h4 := h3 v
        unfold pcells at h4 ⊢
        rw [List.set_cons_succ, List.flatMap_cons, h4, List.append_assoc]
theorem range_set {w : World} {b i : Nat} {q : List (Nat × List Nat)} {u v : Nat × List Nat} (h : w.rangeAt b 0 (pcells q)) (hs : ∀ v ∈ q, v.2.length = 32) (hu : q[i]? = some u) (hv : v.2.length = 32) (ht : w.there b (i * 33) 33) : (w.setCells b (i * 33) (wcells v)).rangeAt b 0 (pcells (q.set i v)) := by
  obtain ⟨A, C, h1, h2, h3⟩ := pcells_split hs hu
  rw [h2] at h
  rw [h3]
  have := range_upd (B' := wcells v) h (by rw [wcells_len hv, wcells_len (hs u (List.mem_of_getElem? hu))]) (by rw [h1, wcells_len hv]; exact ht)
  rw [h1] at this
  exact this
theorem range_take {w : World} {b i : Nat} {q : List (Nat × List Nat)} (h : w.rangeAt b 0 (pcells q)) : w.rangeAt b 0 (pcells (q.take i)) := by
  have e : pcells q = pcells (q.take i) ++ pcells (q.drop i) := by rw [← pcells_append, List.take_append_drop]
  rw [e] at h
  exact fun j v hv => h j v (by rw [List.getElem?_append_left (List.getElem?_eq_some_iff.1 hv).1]; exact hv)
/-- clear of a slice of structs in the middle of a block -/
theorem wpList_clear_mid {P : Program} {w : World} {ops : Array Oper} {rest : List Oper} {o : Oper} {a : Act} {Q : Exit → Act → World → Prop} (hgd : o.guard = none) (x : Operand) (t e : TypeId)
    (ho : o.op = .call { callee := .builtin .clear, args := #[x], argTypes := #[t] }) (hu : P.underlying t = some (.slice e)) (Z : Array Value) (size : Nat) (hz : ∀ w, (zeroValue e).run P w = .ok (.agg Z) w) (hZ : Z.size = size) (h1 : ∀ u ∈ Z.toList, u.oneCell' = true) (hs : 0 < size)
    (b off n cap : Nat) (hx : a.eval x = .slice (some ⟨b, off, none⟩) n cap) (h0 : 0 < n) (ht : w.there b off (n * size))
    (h : ∀ vs : List Value, vs.length = n * size → wpList P ops Q rest (a.put o.dst (.tuple #[])) (w.setCells b off vs)) : wpList P ops Q (o :: rest) a w := by
  refine wpList_plain hgd fun K hK => ?_
  have hl : (Builtin.zeroCells Z n).toList.length = n * size := by rw [Array.length_toList, size_zeroCells, hZ]
  have hst := run_storeCells_cells (P := P) b off (Builtin.zeroCells Z n).toList 0 w (fun j hj => by simpa using (ht j (by omega)).1) (fun j hj => by simpa using (ht j (by omega)).2) (zeroCells_one Z n h1 (by omega))
  obtain ⟨m, rfl⟩ : ∃ m, n = m + 1 := ⟨n - 1, by omega⟩
  have hrun : (Builtin.clear_ #[t] o.type #[.slice (some ⟨b, off, none⟩) (m + 1) cap]).run P w = .ok (.tuple #[]) (w.setCells b off (Builtin.zeroCells Z (m + 1)).toList) := by
    simp only [Nat.add_zero] at hst
    simp [Builtin.clear_, run_underlying hu, hz, Value.cells, hst, Result.andThen]
  unfold Oper.wp
  simp [execOp, ho, resolve, invoke, builtin, hx, hrun, Result.andThen]
  exact hK _ _ (h _ hl)
end Go.Proofs.Ytenjpldinnbcbaa
/- The walk of slices.DeleteFunc on writes. -/

namespace Go.Proofs.Ytenjpldinnbcbaa
open Go.RowKit
set_option linter.unusedVariables false
set_option linter.unusedSimpArgs false
set_option maxRecDepth 100000
set_option maxHeartbeats 1000000

/-- those that are not of the place -/
def notAt (a : Int) (p : List (Nat × List Nat)) : List (Nat × List Nat) := p.filter (fun v => decide ((v.1 : Int) ≠ a))
theorem notAt_id {a : Int} {p : List (Nat × List Nat)} (h : ∀ v ∈ p, (v.1 : Int) ≠ a) : notAt a p = p := by
  unfold notAt
  rw [List.filter_eq_self]
  intro v hv
  exact decide_eq_true (h v hv)
structure DelR (a : Int) (p q : List (Nat × List Nat)) (i j : Nat) : Prop where
  lt : i < j
  le : j ≤ p.length
  len : q.length = p.length
  front : q.take i = notAt a (p.take j)
  back : q.drop j = p.drop j
  sec : ∀ v ∈ q, v.2.length = 32
theorem DelR.keep {a : Int} {p q : List (Nat × List Nat)} {i j : Nat} {v : Nat × List Nat} (h : DelR a p q i j) (hv : p[j]? = some v) (hs : v.2.length = 32) (ha : (v.1 : Int) ≠ a) : DelR a p (q.set i v) (i + 1) (j + 1) := by
  have hj : j < p.length := (List.getElem?_eq_some_iff.1 hv).1
  refine ⟨by have := h.lt; omega, by omega, by rw [List.length_set]; exact h.len, ?_, ?_, ?_⟩
  · have hi : i < q.length := by have := h.lt; have := h.len; omega
    have e1 : (q.set i v)[i]? = some v := by rw [List.getElem?_set_self hi]
    rw [take_succ_get e1, take_succ_get hv]
    have e2 : (q.set i v).take i = q.take i := by rw [List.take_set_of_le (Nat.le_refl _)]
    rw [e2, h.front]
    unfold notAt
    rw [List.filter_append]
    congr 1
    simp [ha]
  · have e : (q.set i v).drop (j + 1) = q.drop (j + 1) := by rw [List.drop_set_of_lt (by have := h.lt; omega)]
    rw [e]
    have := congrArg (List.drop 1) h.back
    rwa [List.drop_drop, List.drop_drop] at this
  · intro u hu
    rcases List.mem_or_eq_of_mem_set hu with h1 | h1
    · exact h.sec u h1
    · rw [h1]; exact hs
theorem DelR.drop {a : Int} {p q : List (Nat × List Nat)} {i j : Nat} {v : Nat × List Nat} (h : DelR a p q i j) (hv : p[j]? = some v) (ha : (v.1 : Int) = a) : DelR a p q i (j + 1) := by
  have hj : j < p.length := (List.getElem?_eq_some_iff.1 hv).1
  refine ⟨by have := h.lt; omega, by omega, h.len, ?_, ?_, h.sec⟩
  · rw [take_succ_get hv, h.front]
    unfold notAt
    rw [List.filter_append]
    simp [ha]
  · have := congrArg (List.drop 1) h.back
    rwa [List.drop_drop, List.drop_drop] at this
theorem DelR.get {a : Int} {p q : List (Nat × List Nat)} {i j : Nat} {v : Nat × List Nat} (h : DelR a p q i j) (hv : p[j]? = some v) : q[j]? = some v := by
  have h1 := congrArg (fun l => l[0]?) h.back
  simp only [List.getElem?_drop, Nat.add_zero] at h1
  rw [h1]; exact hv
theorem DelR.done {a : Int} {p q : List (Nat × List Nat)} {i j : Nat} (h : DelR a p q i j) (hj : j = p.length) : q.take i = notAt a p := by rw [h.front, hj, List.take_length]
theorem DelR.start {a : Int} {p : List (Nat × List Nat)} {k : Nat} (hs : ∀ v ∈ p, v.2.length = 32) (hk : k < p.length) (h1 : ∀ v ∈ p.take k, (v.1 : Int) ≠ a) (h2 : ∀ v, p[k]? = some v → (v.1 : Int) = a) : DelR a p p k (k + 1) := by
  have hv : p[k]? = some p[k] := List.getElem?_eq_getElem hk
  refine ⟨by omega, by omega, rfl, ?_, rfl, hs⟩
  rw [take_succ_get hv]
  have e := notAt_id h1
  unfold notAt at e ⊢
  rw [List.filter_append, e]
  simp [h2 _ hv]
theorem del_any (w : World) (p : List (Nat × List Nat)) (b cap b4 : Nat) (a : Int) (base : Nat) (h : w.ownsRow base 141 33 (.slice (some ⟨b, 0, none⟩) p.length cap) p.length (pcells p)) (hs : ∀ v ∈ p, v.2.length = 32) (hc : w.cell? ⟨b4, 0, none⟩ = some (.int .i64 a)) (hne : b4 ≠ b) (hbase : base ≤ b) :
    Calls Try.prog 110 #[.slice (some ⟨b, 0, none⟩) p.length cap, .func (.func 111) #[] #[.pointer (some ⟨b4, 0, none⟩)]] w fun e w' =>
      ∃ v', e = .returned v' ∧ w'.ownsRow base 141 33 v' (notAt a p).length (pcells (notAt a p)) ∧ Fr (fun x => x = b) w w' := by
  obtain ⟨hz82, hi82⟩ := zero_of_info write_info
  obtain ⟨hrow, hrg, hn1, hn2⟩ := RowAt.of_own h
  have hix := indexf_any w p (some ⟨b, 0, none⟩) cap b4 a hn1 (by simpa [maxLen] using hn2) (fun k v hv => ⟨b, rfl, pcells_range hrg hs hv⟩) hs hc
  have HIX := Lib.hid hix
  have HH := Lib.hid h
  have HS := Lib.hid hs
  have HC := Lib.hid hc
  have HROW := Lib.hid hrow
  have HRG := Lib.hid hrg
  have HN2 := Lib.hid hn2
  have HI := Lib.hid hi82
  have hE := call_dmg1
  have hblt : b < w.heap.size := by obtain ⟨cur, h1, _⟩ := hrow; exact lt_of_block h1
  have hcapI : cap ≤ 9223372036854775807 := by simpa [maxLen] using hn2
  obtain ⟨Z, hZ⟩ : ∃ Z, Z = (wcells (0, List.replicate 32 0)).toArray := ⟨_, rfl⟩
  have HZS : Hid (Z.size = 33) := by show Z.size = 33; rw [hZ]; rfl
  have HZ1 : Hid (∀ u ∈ Z.toList, u.oneCell' = true) := by rw [hZ]; exact wcells_one _
  rw [← hZ] at hz82
  have HZR := Lib.hid hz82
  clear hix h hs hc hrow hrg hn2 hi82 hZ
  go_enter Try.func110, Try.ntmps110
  go_wp2_with fail
  refine Calls.mono HIX.out ?_
  rintro e w1 ⟨r, rfl, hb1, hr⟩
  rcases hr with ⟨rfl, hall⟩ | ⟨k, rfl, hk, hfr, heq⟩
  · have HA := Lib.hid hall
    clear hall
    go_wp2_with fail
    go_ret
    refine ⟨_, rfl, ?_, Fr.of_below hb1⟩
    rw [notAt_id HA.out]
    exact row_up HH.out hb1
  · have HST := Lib.hid (DelR.start HS.out hk hfr heq)
    have hkm : ((k : Int) == -1) = false := by rw [beq_eq_false_iff_ne]; omega
    clear hfr heq
    go_wp2_with fail
    clear hkm
    go_loopw [5, 6] (fun iv jv w' => ∃ (i j : Nat) (q : List (Nat × List Nat)), iv = .int .i64 i ∧ jv = .int .i64 j ∧ i < j ∧ j ≤ p.length ∧ Hid (DelR a p q i j) ∧ Hid (RowAt w' b 141 (cap * 33)) ∧ Hid (w'.rangeAt b 0 (pcells q)) ∧ Hid (Fr (fun x => x = b) w w')) (fun _ jv _ => p.length - (intOf jv).toNat)
    case atStart => exact ⟨k, k + 1, p, rfl, by first | rfl | go_num, by omega, by omega, HST, Lib.hid (HROW.out.fr (Fr.of_below (S := fun _ => False) hb1) id), Lib.hid (rangeAt_fr HRG.out (Fr.of_below (S := fun _ => False) hb1) id), Lib.hid (Fr.of_below hb1)⟩
    case round =>
      obtain ⟨i, j, q, rfl, rfl, hij, hjn, HD, HRW, HRN, HF⟩ := hrel
      have hblr : b < wr.heap.size := Nat.lt_of_lt_of_le hblt HF.out.size
      by_cases hlt : j < p.length
      · obtain ⟨v, hv⟩ : ∃ v, p[j]? = some v := ⟨_, List.getElem?_eq_getElem hlt⟩
        have hv3 : v.2.length = 32 := HS.out v (List.mem_of_getElem? hv)
        have HWL := Lib.hid (wcells_len hv3)
        have HWS : Hid ((wcells v).toArray.size = 33) := by show (wcells v).toArray.size = 33; rw [List.size_toArray]; exact HWL.out
        have HV := Lib.hid hv
        have HV3 := Lib.hid hv3
        have HP : Hid (wr.rangeAt b (j * 33) (wcells v)) := pcells_range HRN.out HD.out.sec (HD.out.get hv)
        obtain ⟨W2, hW2⟩ : ∃ W2, W2 = wr.alloc (.cells (wcells v).toArray 141) := ⟨_, rfl⟩
        have HB2 : Hid (W2.rangeAt wr.heap.size 0 (wcells v)) := by rw [hW2]; exact (Box.new wr (wcells v) _).range
        have HF2 : Hid (Fr (fun x => x = b) wr W2) := by rw [hW2]; exact Fr.alloc _ _
        have HC2 : Hid (W2.cell? ⟨b4, 0, none⟩ = some (.int .i64 a)) := cell_fr (cell_fr HC.out HF.out hne) HF2.out hne
        have HW2 := Lib.hid hW2
        have hs2 : Hid (wr.heap.size < W2.heap.size) := by show _ < _; rw [hW2]; simp
        clear hv hv3 hW2
        go_wp2_with (first
          | (refine wpList_load_mid rfl 141 _ rfl b (j * 33) rfl (wcells v) _ HP.out Try.underlying141 rfl (by rw [HWL.out]; exact HI.out) ?_)
          | (refine wpList_store_new rfl 141 _ _ rfl wr.heap.size wr rfl Z (wcells v).toArray rfl rfl rfl (by rw [HWS.out]; exact HI.out) (by rw [HZS.out, HWS.out]) (all_oneCell_toArray (wcells_one v)) ?_; rw [← HW2.out])
          | (refine wpList_load_mid rfl 141 _ rfl wr.heap.size 0 rfl (wcells v) _ HB2.out Try.underlying141 rfl (by rw [HWL.out]; exact HI.out) ?_)
          | fail)
        refine Calls.mono (dmg1_any W2 v HV3.out b4 a HC2.out) ?_
        rintro e w3 ⟨rfl, hb3⟩
        have HF3 := Lib.hid (HF.out.trans (HF2.out.trans (Fr.of_below hb3)))
        have HRW3 : Hid (RowAt w3 b 141 (cap * 33)) := by
          have h1 : RowAt W2 b 141 (cap * 33) := by rw [HW2.out]; exact HRW.out.fr (Fr.alloc (S := fun _ => False) _ _) id
          exact h1.fr (Fr.of_below (S := fun _ => False) hb3) id
        have HRN3 : Hid (w3.rangeAt b 0 (pcells q)) := by
          have h1 : W2.rangeAt b 0 (pcells q) := by rw [HW2.out]; exact rangeAt_fr HRN.out (Fr.alloc (S := fun _ => False) _ _) id
          exact rangeAt_fr h1 (Fr.of_below (S := fun _ => False) hb3) id
        have HB3 : Hid (w3.rangeAt wr.heap.size 0 (wcells v)) := rangeAt_fr HB2.out (Fr.of_below (S := fun _ => False) hb3) id
        by_cases heq : (v.1 : Int) = a
        · rw [decide_eq_true heq]
          have HE := Lib.hid heq
          clear heq
          go_wp2_with fail
          go_roundw
          case rel => exact ⟨i, j + 1, q, rfl, by go_num, by omega, by omega, Lib.hid (HD.out.drop HV.out HE.out), HRW3, HRN3, HF3⟩
          case measure => simp [intOf]; omega
        · rw [decide_eq_false heq]
          have HE := Lib.hid heq
          have hi1 : (0 : Int) ≤ (i : Int) := by omega
          have hi2 : (i : Int) < (p.length : Int) := by omega
          have HTH : Hid (w3.there b (i * 33) 33) := fun m hm => by
            have := HRW3.out.there (i * 33 + m) (by have h9 := Nat.mul_le_mul_right 33 (show i + 1 ≤ cap by omega); omega)
            rwa [Nat.zero_add] at this
          clear heq
          go_wp2_with (first
            | (refine wpList_load_mid rfl 141 _ rfl wr.heap.size 0 rfl (wcells v) _ HB3.out Try.underlying141 rfl (by rw [HWL.out]; exact HI.out) ?_)
            | (refine wpList_store_mid rfl 141 _ _ rfl b (i * 33) (wcells v).toArray rfl rfl (by rw [HWS.out]; exact HTH.out) (by rw [HWS.out]; exact HI.out) (all_oneCell_toArray (wcells_one v)) ?_)
            | fail)
          go_roundw
          case rel =>
            obtain ⟨u, hu⟩ : ∃ u, q[i]? = some u := ⟨_, List.getElem?_eq_getElem (by rw [HD.out.len]; omega)⟩
            exact ⟨i + 1, j + 1, q.set i v, by go_num, by go_num, by omega, by omega, Lib.hid (HD.out.keep HV.out HV3.out HE.out), Lib.hid (HRW3.out.setCells b _ _), Lib.hid (range_set HRN3.out HD.out.sec hu HV3.out HTH.out), Lib.hid (HF3.out.trans (Fr.cells _ _ _ _))⟩
          case measure => simp [intOf]; omega
      · have hje : j = p.length := by omega
        have HDone := Lib.hid (HD.out.done hje)
        have hi2 : i < p.length := by omega
        have hic : i < cap := by omega
        have HTH : Hid (wr.there b (i * 33) ((p.length - i) * 33)) := fun m hm => by
          have := HRW.out.there (i * 33 + m) (by have h9 := Nat.mul_le_mul_right 33 (show i + (p.length - i) ≤ cap by omega); rw [Nat.add_mul] at h9; omega)
          rwa [Nat.zero_add] at this
        have hi1I : (0 : Int) ≤ (i : Int) := by omega
        have hi2I : (i : Int) ≤ (p.length : Int) := by omega
        have hnc : ¬ cap = i := by omega
        clear hje
        go_wp2_with (first
          | (go_loud (refine wpList_clear_mid rfl _ 133 141 rfl Try.underlying133 Z 33 HZR.out HZS.out HZ1.out (by decide) b (i * 33) (p.length - i) (cap - i) rfl (by omega) HTH.out ?_); intro vs hvs)
          | fail)
        go_ret
        have hfl : (notAt a p).length = i := by rw [← HDone.out, List.length_take, HD.out.len]; omega
        have hrt : wr.rangeAt b 0 (pcells (notAt a p)) := by rw [← HDone.out]; exact range_take HRN.out
        have hsn : ∀ v ∈ notAt a p, v.2.length = 32 := fun v hv => HS.out v (List.mem_filter.1 hv).1
        have hpl := pcells_len hsn
        refine ⟨_, rfl, ?_, HF.out.trans (Fr.cells _ _ _ _)⟩
        rw [hfl]
        exact RowAt.own (HRW.out.setCells b _ _) (World.rangeAt_setCells_apart hrt b _ _ (.inr (.inl (by rw [hpl, hfl]; omega)))) (by rw [hpl, hfl]) hbase (by omega) HN2.out
end Go.Proofs.Ytenjpldinnbcbaa
/- The walk of disk's Damage. -/

namespace Go.Proofs.Ytenjpldinnbcbaa
open Go.RowKit
set_option linter.unusedVariables false
set_option linter.unusedSimpArgs false
set_option maxRecDepth 100000
set_option maxHeartbeats 1000000
attribute [local go_sem ↓] Go.wp_at_zero Go.wp_at_succ

theorem del_nil (w : World) (b4 : Nat) (a : Int) (hc : w.cell? ⟨b4, 0, none⟩ = some (.int .i64 a)) :
    Calls Try.prog 110 #[.slice none 0 0, .func (.func 111) #[] #[.pointer (some ⟨b4, 0, none⟩)]] w fun e w' => e = .returned (.slice none 0 0) ∧ Below w.heap.size w w' := by
  have hix := indexf_any w [] none 0 b4 a (Nat.le_refl _) (by decide) (fun k v hv => by simp at hv) (fun v hv => by cases hv) hc
  have HIX := Lib.hid hix
  clear hix hc
  go_enter Try.func110, Try.ntmps110
  go_wp2_with fail
  refine Calls.mono HIX.out ?_
  rintro e w1 ⟨r, rfl, hb1, hr⟩
  rcases hr with ⟨rfl, _⟩ | ⟨k, _, hk, _⟩
  · go_wp2_with fail
    go_ret
    exact ⟨rfl, hb1⟩
  · simp at hk
/-- DeleteFunc on what a clone of writes is -/
theorem del_row (w : World) (p : List (Nat × List Nat)) (v : Value) (b4 : Nat) (a : Int) (base : Nat) (h : w.ownsRow base 141 33 v p.length (pcells p)) (hs : ∀ v ∈ p, v.2.length = 32) (hc : w.cell? ⟨b4, 0, none⟩ = some (.int .i64 a)) (hne : b4 < base) :
    Calls Try.prog 110 #[v, .func (.func 111) #[] #[.pointer (some ⟨b4, 0, none⟩)]] w fun e w' =>
      ∃ v', e = .returned v' ∧ w'.ownsRow base 141 33 v' (notAt a p).length (pcells (notAt a p)) ∧ Fr (fun x => base ≤ x) w w' := by
  rcases h.2 with ⟨rfl, hn⟩ | ⟨b, cap, cur, rfl, hb, _⟩
  · have hp : p = [] := List.eq_nil_of_length_eq_zero hn
    subst hp
    exact (del_nil w b4 a hc).mono (by rintro e w' ⟨rfl, hb⟩; exact ⟨_, rfl, World.ownsRow_nil _ _ _ _, Fr.of_below hb⟩)
  · exact (del_any w p b cap b4 a base h hs hc (by omega) hb).mono (by rintro e w' ⟨v', rfl, h1, h2⟩; exact ⟨_, rfl, h1, h2.mono (fun x hx => by omega)⟩)
theorem dmg_no (w : World) (base g : Nat) (pv : Value) (d : D.Dk) (at' : Int) (bv : Value) (x : List Nat) (h : IsDisk w base g pv d) (hx : Byt w bv x) (hn : putI d at' x ≠ 0) :
    Calls Try.prog 84 #[.pointer (some ⟨g, 0, none⟩), .int .i64 at', bv] w fun e w' => e = .returned (.int .i64 (putI d at' x)) ∧ Below w.heap.size w w' := by
  obtain ⟨hz82, hi82⟩ := zero_of_info write_info
  obtain ⟨Z, hZ⟩ : ∃ Z, Z = (wcells (0, List.replicate 32 0)).toArray := ⟨_, rfl⟩
  have HZS : Hid (Z.size = 33) := by show Z.size = 33; rw [hZ]; rfl
  rw [← hZ] at hz82
  clear hZ
  have HI := Lib.hid hi82
  obtain ⟨m, hm⟩ : ∃ m, m = putI d at' x := ⟨_, rfl⟩
  obtain ⟨W1, hW1⟩ : ∃ W1, W1 = w.alloc (.cells #[.int .i64 at'] 3) := ⟨_, rfl⟩
  have hc := put_no W1 base g pv d at' bv x (by rw [hW1]; exact h.up (belA1 (belR w))) (by rw [hW1]; exact hx.alloc) hn
  have HB1 : Hid (Below w.heap.size w W1) := by rw [hW1]; exact belA1 (belR w)
  rw [← hm] at hc hn ⊢
  have hb : (m != 0) = true := by rw [bne_iff_ne]; exact hn
  have HC := Lib.hid hc
  have hcell : W1.cell? ⟨w.heap.size, 0, none⟩ = some (.int .i64 at') := by
    rw [hW1, cell_of_row _ _ 0 _ _ _ (heap_alloc_new w _)]; rfl
  rw [hW1] at hcell
  have HW1 := Lib.hid hW1
  clear hi82 hm hc hn h hx hW1
  go_enter Try.func84, Try.ntmps84
  go_wp2_with fail
  rw [← HW1.out]
  refine Calls.mono HC.out ?_
  rintro e w1 ⟨cs, rfl, hcl, hc1, hbel⟩
  have HCS : Hid (cs.toArray.size = 33) := by show cs.toArray.size = 33; rw [List.size_toArray]; exact hcl
  have HC1 := Lib.hid hc1
  have HCL := Lib.hid hcl
  clear hc1 hcl
  go_wp2_with (first
    | (refine wpList_store_new rfl 141 _ _ rfl w1.heap.size w1 rfl Z cs.toArray rfl rfl rfl (by rw [HCS.out]; exact HI.out) (by rw [HZS.out, HCS.out]) (all_oneCell_toArray HC1.out) ?_)
    | fail)
  go_ret
  exact ⟨rfl, belA1 (belT HB1.out hbel)⟩
theorem dmg_yes (w : World) (base g : Nat) (pv : Value) (d : D.Dk) (a : Nat) (bv : Value) (x : List Nat) (h : IsDisk w base g pv d) (hx : Byt w bv x) (hf : d.f = false) (ha : a < 52) (hl : x.length = 32) (hb0 : base ≤ w.heap.size) (hsz : d.p.length * 40 ≤ 140737488355328) :
    Calls Try.prog 84 #[.pointer (some ⟨g, 0, none⟩), .int .i64 a, bv] w fun e w' => e = .returned (.int .i64 0) ∧ ∃ pv', IsDisk w' base g pv' (D.damage d a x) ∧ Fr (fun b => b = g) w w' ∧ (∀ b, pv'.ownBlock = some b → w.heap.size ≤ b) := by
  obtain ⟨hz82, hi82⟩ := zero_of_info write_info
  obtain ⟨Z, hZ⟩ : ∃ Z, Z = (wcells (0, List.replicate 32 0)).toArray := ⟨_, rfl⟩
  have HZS : Hid (Z.size = 33) := by show Z.size = 33; rw [hZ]; rfl
  rw [← hZ] at hz82
  clear hZ
  have HI := Lib.hid hi82
  have HY := Lib.hid (zero_of_info sec_info).2
  obtain ⟨W1, hW1⟩ : ∃ W1, W1 = w.alloc (.cells #[.int .i64 (a : Int)] 3) := ⟨_, rfl⟩
  have D1 : IsDisk W1 base g pv d := by rw [hW1]; exact h.up (belA1 (belR w))
  have hc := put_yes W1 base g pv d a bv x D1 (by rw [hW1]; exact hx.alloc) hf ha hl
  have HB1 : Hid (Below w.heap.size w W1) := by rw [hW1]; exact belA1 (belR w)
  have hs1 : W1.heap.size = w.heap.size + 1 := by rw [hW1]; simp
  have hcell : W1.cell? ⟨w.heap.size, 0, none⟩ = some (.int .i64 (a : Int)) := by
    rw [hW1, cell_of_row _ _ 0 _ _ _ (heap_alloc_new w _)]; rfl
  have HCELL := Lib.hid hcell
  rw [hW1] at hcell
  have HW1 := Lib.hid hW1
  obtain ⟨cs, hcs⟩ : ∃ cs, cs = wcells (a, x) := ⟨_, rfl⟩
  have hcl : cs.length = 33 := by rw [hcs]; exact wcells_len hl
  have HCS : Hid (cs.toArray.size = 33) := by show cs.toArray.size = 33; rw [List.size_toArray]; exact hcl
  have HC1 : Hid (∀ u ∈ cs, u.oneCell' = true) := by rw [hcs]; exact wcells_one _
  have HCL := Lib.hid hcl
  have HCE := Lib.hid hcs
  have HX : Hid (∀ y ∈ x, y < 256) := hx.bytes
  have HL := Lib.hid hl
  have HD1 := Lib.hid D1
  have hg0 : g < w.heap.size := h.lt
  have HS1 := Lib.hid hs1
  rw [← hcs] at hc
  have HC := Lib.hid hc
  have ha0 : (0 : Int) ≤ (a : Int) := by omega
  have ha1 : (a : Int) < 52 := by omega
  clear hi82 hc h hx hcs hcl hl D1 hW1 hs1
  go_enter Try.func84, Try.ntmps84
  go_wp2_with fail
  rw [← HW1.out]
  refine Calls.mono HC.out ?_
  rintro e w1 ⟨rfl, hbel⟩
  obtain ⟨W2, hW2⟩ : ∃ W2, W2 = w1.alloc (.cells cs.toArray 141) := ⟨_, rfl⟩
  have HW2 := Lib.hid hW2
  have HB2 : Hid (W2.rangeAt w1.heap.size 1 (x.map u8v)) := by
    rw [hW2]
    intro j u hu
    rw [cell_of_row _ _ _ _ _ _ (heap_alloc_new w1 _), Nat.add_comm 1 j, HCE.out]
    simpa [wcells] using hu
  have HD2 : Hid (IsDisk W2 base g pv d) := by rw [hW2]; exact (HD1.out.up hbel).up (belA1 (belR w1))
  have HBl : Hid (Below w.heap.size w W2) := by rw [hW2]; exact belA1 (belT HB1.out hbel)
  have HCW : Hid (W2.cell? ⟨w.heap.size, 0, none⟩ = some (.int .i64 (a : Int))) := by
    rw [hW2]; exact cell_fr (cell_fr HCELL.out (Fr.of_below (S := fun _ => False) hbel) id) (Fr.alloc (S := fun _ => False) _ _) id
  have HT : Hid (W2.there g (a * 32) 32) := HD2.out.sec_there ha
  have hw1 : w.heap.size < w1.heap.size := by have := hbel.size; have := HS1.out; omega
  have HW2S : Hid (w1.heap.size < W2.heap.size) := by show _ < _; rw [hW2]; simp
  clear hW2 hcell
  go_wp2_with (first
    | (refine wpList_store_new rfl 141 _ _ rfl w1.heap.size w1 rfl Z cs.toArray rfl rfl rfl (by rw [HCS.out]; exact HI.out) (by rw [HZS.out, HCS.out]) (all_oneCell_toArray HC1.out) ?_; rw [← HW2.out])
    | fail)
  have hxl : (x.map u8v).length = 32 := by rw [List.length_map]; exact HL.out
  have hy1 := HY.out
  have hy2 : (Try.prog.info? 131).map (·.size) = some (x.map u8v).length := by rw [hxl]; exact HY.out
  have hu76 := Try.underlying131
  have hon := u8v_one x
  have k1 := HCW.out
  have k2 := HB2.out
  have k3 := HT.out
  go_region_held3 (fun w' => w'.cell? ⟨w.heap.size, 0, none⟩ = some (.int .i64 (a : Int)) ∧ w'.rangeAt w1.heap.size 1 (x.map u8v) ∧ w'.there g (a * 32) 32)
    ((go_split_ands; (try refine ⟨?_, ?_, ?_⟩) <;> first | assumption | (refine cell_cells ?_ ?_ <;> first | assumption | omega) | (refine rangeAt_cells ?_ ?_ <;> first | assumption | omega) | (apply World.there_setCells; assumption)))
    (fail)
  all_goals
    clear k1 k2 k3 hy1 hy2 hu76 hon hxl
    have HD3 : Hid (IsDisk (W2.drew.setCells g (a * 32) (x.map u8v)) base g pv { d with l := d.l.set a x }) := (HD2.out.up (belDr (belR _))).setSec ha HL.out HX.out
    obtain ⟨W3, hW3⟩ : ∃ W3, W3 = W2.drew.setCells g (a * 32) (x.map u8v) := ⟨_, rfl⟩
    have HF3 : Hid (Fr (fun b => b = g) w W3) := by rw [hW3]; exact ((Fr.of_below HBl.out).trans (Fr.drew _)).trans (Fr.cells _ _ _ _)
    have HC3 : Hid (W3.cell? ⟨w.heap.size, 0, none⟩ = some (.int .i64 (a : Int))) := by rw [hW3]; exact cell_cells (by simpa using HCW.out) (by omega)
    have HS3 : Hid (w.heap.size < W3.heap.size) := by
      rw [hW3]
      exact Nat.lt_of_lt_of_le (Nat.lt_of_lt_of_le hw1 (Nat.le_of_lt HW2S.out)) ((Fr.drew (S := fun b => b = g) W2).trans (Fr.cells _ _ _ _)).size
    rw [← hW3] at HD3 ⊢
    clear hW3
    have hpv := HD3.out.pv_cell
    go_wp2_with fail
    refine Calls.mono (clone_writes pv d.p base W3 HD3.out.pend HD3.out.ok.psec hsz) ?_
    rintro e w4 ⟨v4, rfl, O4, b4⟩
    go_wp2_with fail
    refine Calls.mono (del_row w4 d.p v4 w.heap.size (a : Int) W3.heap.size O4 HD3.out.ok.psec (cell_fr HC3.out (Fr.of_below (S := fun _ => False) b4) id) HS3.out) ?_
    rintro e w5 ⟨v5, rfl, O5, F5⟩
    obtain ⟨ao5, cap5, rfl⟩ := row_shape O5
    have hg3 : ¬ W3.heap.size ≤ g := by have := HD3.out.lt; omega
    have HR5 := Lib.hid (rangeAt_fr (rangeAt_fr HD3.out.cells (Fr.of_below (S := fun _ => False) b4) id) F5 hg3)
    have HT5 := Lib.hid (there_fr (there_fr HD3.out.there (Fr.of_below (S := fun _ => False) b4) id) F5 hg3)
    have hc5 := obj_pv HD3.out.ok HR5.out
    have hz5 := there_frozen (o := 1664) HT5.out (by decide)
    have HF5 := Lib.hid ((HF3.out.trans (Fr.of_below b4)).transN F5 (fun i hi => .inr (by have := HS3.out; omega)))
    have HO5 := Lib.hid O5
    clear O5 F5 hpv
    go_wp2_with fail
    go_ret
    refine ⟨rfl, .slice ao5 (notAt (a : Int) d.p).length cap5, ?_, HF5.out.trans (Fr.cell (w := w5) ⟨g, 1664, none⟩ _), fun b hb => by have := (HO5.out.lt b hb).1; have := HS3.out; omega⟩
    have hna : notAt (a : Int) d.p = (D.damage d a x).p := by
      unfold notAt D.damage
      apply List.filter_congr
      intro v _
      by_cases hv : v.1 = a
      · simp [hv]
      · simp [hv]; omega
    have hdk : D.damage d a x = { ({ d with l := d.l.set a x } : D.Dk) with p := notAt (a : Int) d.p } := by rw [hna]; rfl
    rw [hdk]
    refine IsDisk.setPv (d := { d with l := d.l.set a x }) HD3.out.ge (Nat.lt_of_lt_of_le hg0 HF5.out.size) HD3.out.ok HR5.out HT5.out ?_ ?_ ?_
    · refine ⟨HO5.out.1, ?_⟩
      rcases HO5.out.2 with h1 | ⟨b, c, cur, e1, h2, h3⟩
      · exact .inl h1
      · exact .inr ⟨b, c, cur, e1, by have := HS3.out; omega, h3⟩
    · intro e1
      have := (HO5.out.lt g e1).1
      omega
    · rw [← hdk]
      exact D.damage_ok HD2.out.ok HL.out HX.out
end Go.Proofs.Ytenjpldinnbcbaa
/- Merged: DiskI, DiskL, DiskA. -/

/- What a disk's methods do, at any place that may be; and the document's own example. -/

namespace Go.Proofs.Ytenjpldinnbcbaa
open Go.RowKit
set_option linter.unusedVariables false
set_option linter.unusedSimpArgs false
set_option maxRecDepth 100000
set_option maxHeartbeats 1000000

theorem readI (w : World) (base g : Nat) (pv : Value) (d : D.Dk) (at' : Int) (h : IsDisk w base g pv d) (hf : d.f = false) (h0 : 0 ≤ at') (h1 : at' < 52) :
    Calls Try.prog 65 #[.pointer (some ⟨g, 0, none⟩), .int .i64 at'] w fun e w' => ∃ v, e = .returned (.tuple #[v, .int .i64 0]) ∧ Own w' w.heap.size v (D.look d at'.toNat) ∧ Below w.heap.size w w' := by
  obtain ⟨a, rfl⟩ := Int.eq_ofNat_of_zero_le h0
  exact read_yes w base g pv d a h hf (by omega)
theorem writeI (w : World) (base g : Nat) (pv : Value) (d : D.Dk) (at' : Int) (bv : Value) (x : List Nat) (h : IsDisk w base g pv d) (hx : Byt w bv x) (hf : d.f = false) (h0 : 0 ≤ at') (h1 : at' < 52) (hl : x.length = 32) (hb0 : base ≤ w.heap.size) (hsz : (d.p.length + 1) * 40 ≤ 140737488355328) :
    Calls Try.prog 82 #[.pointer (some ⟨g, 0, none⟩), .int .i64 at', bv] w fun e w' => e = .returned (.int .i64 0) ∧ ∃ pv', IsDisk w' base g pv' (D.write d at'.toNat x) ∧ Fr (ofD g pv) w w' ∧ (∀ b, pv'.ownBlock = some b → pv.ownBlock = some b ∨ w.heap.size ≤ b) := by
  obtain ⟨a, rfl⟩ := Int.eq_ofNat_of_zero_le h0
  exact write_yes w base g pv d a bv x h hx hf (by omega) hl hb0 hsz
theorem newI (w : World) : Calls Try.prog 52 #[] w fun e w' => e = .returned (.pointer (some ⟨w.heap.size, 0, none⟩)) ∧ IsDisk w' w.heap.size w.heap.size (.slice none 0 0) D.blank ∧ Below w.heap.size w w' :=
  (new_any w).mono (by rintro e w' ⟨rfl, rfl⟩; exact ⟨rfl, new_disk (Nat.le_refl _), belA1 (belR w)⟩)
theorem IsDisk.low {w : World} {base base' g : Nat} {pv : Value} {d : D.Dk} (h : IsDisk w base g pv d) (hb : base' ≤ base) : IsDisk w base' g pv d := by
  refine ⟨Nat.le_trans hb h.ge, h.lt, h.cells, h.there, ?_, h.ok, h.ap⟩
  refine ⟨h.pend.1, ?_⟩
  rcases h.pend.2 with h1 | ⟨b, cap, cur, e, h2, h3⟩
  · exact .inl h1
  · exact .inr ⟨b, cap, cur, e, Nat.le_trans hb h2, h3⟩
/-- what keeps a value apart from a disk that was made later -/
theorem Own.dfr {w w' : World} {base b2 g : Nat} {v pv : Value} {d : D.Dk} {l : List Nat} (h : Own w b2 v l) (k : Fr (ofD g pv) w w') (hb : ∀ b, v.ownBlock = some b → ¬ ofD g pv b) : Own w' b2 v l := h.fr k hb
theorem blank_look : D.look D.blank 0 = List.replicate 32 0 := rfl
attribute [local irreducible] Go.Calls Byt Own Parts
end Go.Proofs.Ytenjpldinnbcbaa
/- What a disk reads as behind writes, flushes, crashes: in plain terms. -/

namespace Go.Proofs.Ytenjpldinnbcbaa
open Go.RowKit
set_option linter.unusedVariables false
set_option linter.unusedSimpArgs false
namespace D
theorem look_write_same (d : Dk) (a : Nat) (x : List Nat) : look (write d a x) a = x := by
  unfold look write
  rw [List.foldl_append]
  simp
theorem look_write_other (d : Dk) {a b : Nat} (x : List Nat) (h : a ≠ b) : look (write d a x) b = look d b := by
  unfold look write
  rw [List.foldl_append]
  simp [h]
theorem apply_get (p : List (Nat × List Nat)) : ∀ (l : List (List Nat)) (a : Nat), a < l.length → (apply l p).getD a [] = p.foldl (fun b w => if w.1 = a then w.2 else b) (l.getD a []) := by
  induction p with
  | nil => intro l a _; rfl
  | cons w p ih =>
    intro l a ha
    unfold apply at ih ⊢
    rw [List.foldl_cons, List.foldl_cons, ih _ a (by simpa using ha)]
    congr 1
    by_cases h : w.1 = a
    · rw [if_pos h, h]
      simp [List.getD, ha]
    · rw [if_neg h]
      simp [List.getD, List.getElem?_set_ne h]
theorem look_flush {d : Dk} (h : Ok d) {a : Nat} (ha : a < 52) : look (flush d) a = look d a := by
  unfold look flush
  exact apply_get d.p d.l a (by rw [h.len]; exact ha)
theorem kept_snoc : ∀ (p : List (Nat × List Nat)) (ks : List Bool) (v : Nat × List Nat), kept (p ++ [v]) ks = kept p ks ++ (if ks[p.length]? = some true then [v] else [])
  | [], [], v => by simp [kept]
  | [], b :: ks, v => by cases b <;> simp [kept]
  | w :: p, [], v => by simp [kept]
  | w :: p, b :: ks, v => by
    rw [List.cons_append]
    unfold kept
    rw [kept_snoc p ks v]
    cases b <;> simp
theorem look_crash {d : Dk} (h : Ok d) (ks : List Bool) {a : Nat} (ha : a < 52) : look (crash d ks) a = (kept d.p ks).foldl (fun b w => if w.1 = a then w.2 else b) (d.l.getD a []) := by
  unfold look crash
  exact apply_get _ d.l a (by rw [h.len]; exact ha)
theorem look_crash_write {d : Dk} (h : Ok d) (ks : List Bool) {a : Nat} {x : List Nat} (ha : a < 52) (hx : x.length = 32) (h8 : ∀ y ∈ x, y < 256) :
    look (crash (write d a x) ks) a = if ks[d.p.length]? = some true then x else look (crash d ks) a := by
  rw [look_crash (write_ok h ha hx h8) ks ha, look_crash h ks ha]
  show (kept (d.p ++ [(a, x)]) ks).foldl _ (d.l.getD a []) = _
  rw [kept_snoc, List.foldl_append]
  split <;> simp
theorem crash_idle {d : Dk} (h : d.p = []) (ks : List Bool) (hp : d.p = []) : crash d ks = d := by
  unfold crash
  rw [h]
  obtain ⟨l, p, f⟩ := d
  simp at h
  subst h
  rfl
theorem crash_none (d : Dk) : crash d [] = { d with p := [] } := by
  unfold crash
  have : kept d.p [] = [] := by cases d.p <;> simp [kept]
  rw [this]
  rfl
end D
theorem Bools.lt {w : World} {v : Value} {l : List Bool} (h : Bools w v l) (hn : l ≠ []) : ∀ b, v.ownBlock = some b → b < w.heap.size := by
  intro b hb
  obtain ⟨ao, cap, rfl, h1, h2, h0, h4⟩ := h
  rcases h4 with h4 | ⟨b', off, rfl, hlt, _⟩
  · exact absurd (by simpa using h4) hn
  · cases hb
    exact hlt
theorem secL_ok (n : Int) : (secL n).length = 32 ∧ ∀ x ∈ secL n, x < 256 := ⟨secL_len n, secL_byte n⟩
/-- a value apart from a disk stays so behind a write -/
theorem apart_new {w : World} {g : Nat} {v pv pv' : Value} (hold : ∀ b, v.ownBlock = some b → ¬ ofD g pv b) (hlt : ∀ b, v.ownBlock = some b → b < w.heap.size) (p : ∀ b, pv'.ownBlock = some b → pv.ownBlock = some b ∨ w.heap.size ≤ b) : ∀ b, v.ownBlock = some b → ¬ ofD g pv' b := by
  intro b hb hof
  rcases hof with rfl | h
  · exact hold _ hb (.inl rfl)
  · rcases p b h with h1 | h1
    · exact hold b hb (.inr h1)
    · have := hlt b hb
      omega
/-- a value that was made behind a disk is apart from it -/
theorem apart_made {w w' : World} {base base' g : Nat} {pv v : Value} {d : D.Dk} {l : List Nat} (h : IsDisk w base g pv d) (ho : Own w' base' v l) (hb : w.heap.size ≤ base') : ∀ b, v.ownBlock = some b → ¬ ofD g pv b := fun b hv hof => by
  have h1 := h.lts b hof
  have h2 := ho.ge b hv
  omega
theorem apart_none {g : Nat} {v pv : Value} (h : ∀ b, v.ownBlock = some b → ¬ ofD g pv b) : ∀ b, v.ownBlock = some b → ¬ ofD g (.slice none 0 0) b := fun b hb hof => by
  rcases hof with rfl | hof
  · exact h _ hb (.inl rfl)
  · cases hof
theorem Fr.obj {g : Nat} {pv : Value} {w w' : World} (h : Fr (fun b => b = g) w w') : Fr (ofD g pv) w w' := h.mono (fun b hb => .inl hb)
theorem Fr.low {B g : Nat} {pv : Value} {a w w' : World} (h : Below B a w) (k : Fr (ofD g pv) w w') (hB : B ≤ w.heap.size) (hg : ∀ b, ofD g pv b → B ≤ b) : Below B a w' := Fr.below h k hB hg
end Go.Proofs.Ytenjpldinnbcbaa
/- What a disk's methods do, whatever is asked. -/

namespace Go.Proofs.Ytenjpldinnbcbaa
open Go.RowKit
set_option linter.unusedVariables false
set_option linter.unusedSimpArgs false
set_option maxRecDepth 100000
set_option maxHeartbeats 1000000
namespace D
def readL (d : Dk) (at' : Int) : List Nat := if may d at' = 0 then look d at'.toNat else []
def wrote (d : Dk) (at' : Int) (x : List Nat) : Dk := if putI d at' x = 0 then write d at'.toNat x else d
def hurt (d : Dk) (at' : Int) (x : List Nat) : Dk := if putI d at' x = 0 then damage d at'.toNat x else d
def flushed (d : Dk) : Dk := if d.f then d else flush d
theorem may_zero {d : Dk} {at' : Int} (h : may d at' = 0) : d.f = false ∧ 0 ≤ at' ∧ at' < 52 := by
  unfold may at h
  by_cases hf : d.f = true
  · rw [if_pos hf] at h; omega
  · rw [if_neg hf] at h
    by_cases h2 : at' < 0 ∨ 52 ≤ at'
    · rw [if_pos h2] at h; omega
    · exact ⟨by simpa using hf, by omega, by omega⟩
theorem put_zero {d : Dk} {at' : Int} {x : List Nat} (h : putI d at' x = 0) : d.f = false ∧ 0 ≤ at' ∧ at' < 52 ∧ x.length = 32 := by
  unfold putI at h
  by_cases hm : may d at' ≠ 0
  · rw [if_pos hm] at h; exact absurd h hm
  · rw [if_neg hm] at h
    obtain ⟨h1, h2, h3⟩ := may_zero (Classical.byContradiction hm)
    by_cases hl : x.length ≠ 32
    · rw [if_pos hl] at h; omega
    · exact ⟨h1, h2, h3, Classical.byContradiction hl⟩
end D
theorem readA (w : World) (base g : Nat) (pv : Value) (d : D.Dk) (at' : Int) (h : IsDisk w base g pv d) :
    Calls Try.prog 65 #[.pointer (some ⟨g, 0, none⟩), .int .i64 at'] w fun e w' => ∃ v, e = .returned (.tuple #[v, .int .i64 (D.may d at')]) ∧ Own w' w.heap.size v (D.readL d at') ∧ Below w.heap.size w w' := by
  by_cases hm : D.may d at' = 0
  · obtain ⟨h1, h2, h3⟩ := D.may_zero hm
    unfold D.readL
    rw [if_pos hm, hm]
    exact readI w base g pv d at' h h1 h2 h3
  · unfold D.readL
    rw [if_neg hm]
    exact (read_no w base g pv d at' h hm).mono (by rintro e w' ⟨rfl, rfl⟩; exact ⟨_, rfl, Own.empty _ _, belR _⟩)
theorem writeA (w : World) (base g : Nat) (pv : Value) (d : D.Dk) (at' : Int) (bv : Value) (x : List Nat) (h : IsDisk w base g pv d) (hx : Byt w bv x) (hb0 : base ≤ w.heap.size) (hsz : (d.p.length + 1) * 40 ≤ 140737488355328) :
    Calls Try.prog 82 #[.pointer (some ⟨g, 0, none⟩), .int .i64 at', bv] w fun e w' => e = .returned (.int .i64 (putI d at' x)) ∧ ∃ pv', IsDisk w' base g pv' (D.wrote d at' x) ∧ Fr (ofD g pv) w w' ∧ (∀ b, pv'.ownBlock = some b → pv.ownBlock = some b ∨ w.heap.size ≤ b) := by
  by_cases hm : putI d at' x = 0
  · obtain ⟨h1, h2, h3, h4⟩ := D.put_zero hm
    unfold D.wrote
    rw [if_pos hm, hm]
    exact writeI w base g pv d at' bv x h hx h1 h2 h3 h4 hb0 hsz
  · unfold D.wrote
    rw [if_neg hm]
    exact (write_no w base g pv d at' bv x h hx hm).mono (by rintro e w' ⟨rfl, hb⟩; exact ⟨rfl, pv, h.up hb, Fr.of_below hb, fun b hb => .inl hb⟩)
theorem dmgA (w : World) (base g : Nat) (pv : Value) (d : D.Dk) (at' : Int) (bv : Value) (x : List Nat) (h : IsDisk w base g pv d) (hx : Byt w bv x) (hb0 : base ≤ w.heap.size) (hsz : d.p.length * 40 ≤ 140737488355328) :
    Calls Try.prog 84 #[.pointer (some ⟨g, 0, none⟩), .int .i64 at', bv] w fun e w' => e = .returned (.int .i64 (putI d at' x)) ∧ ∃ pv', IsDisk w' base g pv' (D.hurt d at' x) ∧ Fr (ofD g pv) w w' ∧ (∀ b, pv'.ownBlock = some b → pv.ownBlock = some b ∨ w.heap.size ≤ b) := by
  by_cases hm : putI d at' x = 0
  · obtain ⟨h1, h2, h3, h4⟩ := D.put_zero hm
    unfold D.hurt
    rw [if_pos hm, hm]
    obtain ⟨a, rfl⟩ := Int.eq_ofNat_of_zero_le h2
    exact (dmg_yes w base g pv d a bv x h hx h1 (by omega) h4 hb0 hsz).mono (by rintro e w' ⟨rfl, pv', h5, h6, h7⟩; exact ⟨rfl, pv', h5, h6.obj, fun b hb => .inr (h7 b hb)⟩)
  · unfold D.hurt
    rw [if_neg hm]
    exact (dmg_no w base g pv d at' bv x h hx hm).mono (by rintro e w' ⟨rfl, hb⟩; exact ⟨rfl, pv, h.up hb, Fr.of_below hb, fun b hb => .inl hb⟩)
theorem flushA (w : World) (base g : Nat) (pv : Value) (d : D.Dk) (h : IsDisk w base g pv d) :
    Calls Try.prog 96 #[.pointer (some ⟨g, 0, none⟩)] w fun e w' => e = .returned (.int .i64 (if d.f then 5 else 0)) ∧ ∃ pv', IsDisk w' base g pv' (D.flushed d) ∧ Fr (ofD g pv) w w' ∧ (∀ b, pv'.ownBlock = some b → pv.ownBlock = some b ∨ w.heap.size ≤ b) := by
  by_cases hf : d.f = true
  · unfold D.flushed
    rw [if_pos hf, if_pos hf]
    exact (flush_no w base g pv d h hf).mono (by rintro e w' ⟨rfl, rfl⟩; exact ⟨rfl, pv, h, Fr.refl _ _, fun b hb => .inl hb⟩)
  · unfold D.flushed
    rw [if_neg hf, if_neg hf]
    exact (flush_any w base g pv d h (by simpa using hf)).mono (by rintro e w' ⟨rfl, h1, h2⟩; exact ⟨rfl, .slice none 0 0, h1, h2.obj, fun b hb => by cases hb⟩)
end Go.Proofs.Ytenjpldinnbcbaa
