/- What keeps of a bench of three whole disks, whatever is written, flushed, crashed: in plain terms. -/
import Derived.Test.YtggljcdkiaggeaaBenchK
namespace Go.Proofs.Ytggljcdkiaggeaa
open Go.RowKit
set_option linter.unusedVariables false
set_option linter.unusedSimpArgs false
set_option maxRecDepth 100000
set_option maxHeartbeats 1000000
structure BI (b : B.Bn) (n : Nat) : Prop where
  len : b.ds.length = 3
  get : ∀ i, i < 3 → ∃ d, b.ds[i]? = some d ∧ d.f = false ∧ d.p.length ≤ n
  wr : 0 ≤ b.writes ∧ b.writes ≤ (n : Int)
  lf : -1 ≤ b.left ∧ b.left ≤ 20
theorem BI.up {b : B.Bn} {n m : Nat} (h : BI b n) (hm : n ≤ m) : BI b m := ⟨h.len, fun i hi => let ⟨d, h1, h2, h3⟩ := h.get i hi; ⟨d, h1, h2, Nat.le_trans h3 hm⟩, ⟨h.wr.1, by have := h.wr.2; omega⟩, h.lf⟩
theorem BI.start (L : Int) (h1 : -1 ≤ L) (h2 : L ≤ 20) : BI { B.fresh 3 with left := L } 0 := ⟨rfl, fun i hi => ⟨D.blank, B.fresh_get hi, rfl, Nat.le_refl _⟩, ⟨Int.le_refl 0, Int.le_refl 0⟩, h1, h2⟩
theorem BI.setD {b : B.Bn} {n m i : Nat} {d : D.Dk} (h : BI b n) (hi : i < 3) (hf : d.f = false) (hp : d.p.length ≤ m) (hnm : n ≤ m) {b' : B.Bn} (hb : b'.ds = b.ds.set i d) (hw : 0 ≤ b'.writes ∧ b'.writes ≤ (m : Int)) (hl : -1 ≤ b'.left ∧ b'.left ≤ 20) : BI b' m := by
  refine ⟨by rw [hb, List.length_set]; exact h.len, fun j hj => ?_, hw, hl⟩
  by_cases e : i = j
  · subst e
    exact ⟨d, by rw [hb, List.getElem?_set_self (by rw [h.len]; exact hi)], hf, hp⟩
  · obtain ⟨d2, h1, h2, h3⟩ := h.get j hj
    exact ⟨d2, by rw [hb, List.getElem?_set_ne e]; exact h1, h2, Nat.le_trans h3 hnm⟩
theorem BI.write {b : B.Bn} {n : Nat} {i a : Int} {x : List Nat} (h : BI b n) (hi0 : 0 ≤ i) (hi : i < 3) (ha0 : 0 ≤ a) (ha : a < 52) (hx : x.length = 32) : BI (B.write b i a x) (n + 1) := by
  obtain ⟨i, rfl⟩ := Int.eq_ofNat_of_zero_le hi0
  obtain ⟨a, rfl⟩ := Int.eq_ofNat_of_zero_le ha0
  have hi3 : i < 3 := by omega
  obtain ⟨d, hd, hf, hp⟩ := h.get i hi3
  cases hdn : b.down with
  | true =>
    rw [(B.write_down (a := (a : Int)) (x := x) hdn (by rw [h.len]; exact hi3)).2]
    exact h.up (by omega)
  | false =>
    by_cases hl : b.left = 0
    · rw [(B.write_spent (a := a) hdn hd hf (by omega) hx hl).2]
      exact ⟨h.len, (h.up (Nat.le_succ n)).get, (h.up (Nat.le_succ n)).wr, h.lf⟩
    · rw [(B.write_ok (a := a) hdn hd hf (by omega) hx hl).2]
      have h1 := h.wr
      have h2 := h.lf
      refine h.setD hi3 (d := D.write d a x) hf (by simp [D.write]; exact hp) (Nat.le_succ n) rfl ?_ ?_
      · show 0 ≤ b.writes + 1 ∧ b.writes + 1 ≤ ((n + 1 : Nat) : Int)
        omega
      · show -1 ≤ (if 0 < b.left then b.left - 1 else b.left) ∧ (if 0 < b.left then b.left - 1 else b.left) ≤ 20
        split <;> omega
theorem BI.flush {b : B.Bn} {n i : Nat} (h : BI b n) (hi : i < 3) : BI { b with ds := b.ds.set i (D.flushed (B.dk b i)) } n := by
  obtain ⟨d, hd, hf, hp⟩ := h.get i hi
  rw [B.dk_nat hd]
  refine h.setD hi (d := D.flushed d) (by unfold D.flushed; rw [hf]; exact hf) ?_ (Nat.le_refl _) rfl h.wr h.lf
  unfold D.flushed
  rw [hf]
  exact Nat.zero_le _
theorem BI.three {b : B.Bn} {n : Nat} (h : BI b n) : ∃ d0 d1 d2, b.ds = [d0, d1, d2] := by
  have hl := h.len
  match hb : b.ds, hl with
  | [x, y, z], _ => exact ⟨x, y, z, rfl⟩
theorem BI.crash {b : B.Bn} {n : Nat} (h : BI b n) (ks : List Bool) : BI (B.crash b ks) n ∧ (B.crash b ks).down = false ∧ (B.crash b ks).left = -1 ∧ B.pending (B.crash b ks) = 0 := by
  obtain ⟨d0, d1, d2, hb⟩ := h.three
  have e : (B.crash b ks).ds = B.crashAll [d0, d1, d2] ks := by show B.crashAll b.ds ks = _; rw [hb]
  have hf : ∀ i d, i < 3 → b.ds[i]? = some d → d.f = false := fun i d hi hd => by
    obtain ⟨d', h1, h2, _⟩ := h.get i hi
    rw [h1] at hd
    cases hd
    exact h2
  have f0 := hf 0 d0 (by decide) (by rw [hb]; rfl)
  have f1 := hf 1 d1 (by decide) (by rw [hb]; rfl)
  have f2 := hf 2 d2 (by decide) (by rw [hb]; rfl)
  unfold B.crashAll B.crashAll B.crashAll B.crashAll at e
  refine ⟨⟨by rw [e]; rfl, fun i hi => ?_, h.wr, by show -1 ≤ (-1 : Int) ∧ (-1 : Int) ≤ 20; decide⟩, rfl, rfl, by unfold B.pending; rw [e]; rfl⟩
  have h3 : i = 0 ∨ i = 1 ∨ i = 2 := by omega
  rw [e]
  rcases h3 with rfl | rfl | rfl
  · exact ⟨_, rfl, f0, Nat.zero_le _⟩
  · exact ⟨_, rfl, f1, Nat.zero_le _⟩
  · exact ⟨_, rfl, f2, Nat.zero_le _⟩
theorem BI.sz {b : B.Bn} {n : Nat} (h : BI b n) (hn : n ≤ 1000) : (∀ dk ∈ b.ds, (dk.p.length + 1) * 40 ≤ 140737488355328) ∧ (-4611686018427387904 < b.writes ∧ b.writes < 4611686018427387904) ∧ (-4611686018427387904 < b.left ∧ b.left ≤ 9223372036854775807) := by
  refine ⟨fun dk hdk => ?_, by have := h.wr; omega, by have := h.lf; omega⟩
  obtain ⟨jj, hjl, hjj⟩ := List.getElem_of_mem hdk
  obtain ⟨d, h1, _, h3⟩ := h.get jj (by rw [← h.len]; exact hjl)
  rw [List.getElem?_eq_getElem hjl, hjj] at h1
  cases h1
  omega
theorem BI.pend {b : B.Bn} {n : Nat} (h : BI b n) (hn : n ≤ 1000) : B.pending b ≤ 4611686018427387904 := by
  obtain ⟨d0, d1, d2, hb⟩ := h.three
  have hf : ∀ i d, i < 3 → b.ds[i]? = some d → d.p.length ≤ n := fun i d hi hd => by
    obtain ⟨d', h1, _, h3⟩ := h.get i hi
    rw [h1] at hd
    cases hd
    exact h3
  have f0 := hf 0 d0 (by decide) (by rw [hb]; rfl)
  have f1 := hf 1 d1 (by decide) (by rw [hb]; rfl)
  have f2 := hf 2 d2 (by decide) (by rw [hb]; rfl)
  unfold B.pending
  rw [hb]
  simp
  omega
/-- flush of a bench of three disks, with power or without -/
theorem bflush_all (w : World) (base g : Nat) (lv : Value) (hs : List (Nat × Value)) (b : B.Bn) (i n : Nat) (h : IsBench w base g lv hs b) (hI : BI b n) (hi : i < 3) :
    Calls Try.prog 49 #[.pointer (some ⟨g, 0, none⟩), .int .i64 i] w fun e w' => ∃ v b' hs', e = .returned (.int .i64 v) ∧ IsBench w' base g lv hs' b' ∧ BI b' n ∧ Fr (ofB g lv hs) w w' ∧ ∀ y, ofB g lv hs' y → ofB g lv hs y ∨ w.heap.size ≤ y := by
  cases hd : b.down with
  | true =>
    refine (bflush_down w base g lv hs b i h (by rw [B.may_down hd (by rw [hI.len]; exact hi)]; decide)).mono ?_
    rintro e w' ⟨rfl, rfl⟩
    exact ⟨_, b, hs, rfl, h, hI, Fr.refl _ _, fun y hy => .inl hy⟩
  | false =>
    refine (bflush_yes w base g lv hs b i h (by rw [hI.len]; exact hi) hd).mono ?_
    rintro e w' ⟨rfl, hs', h1, h2, h3⟩
    exact ⟨_, _, hs', rfl, h1, hI.flush hi, h2, h3⟩
end Go.Proofs.Ytggljcdkiaggeaa
