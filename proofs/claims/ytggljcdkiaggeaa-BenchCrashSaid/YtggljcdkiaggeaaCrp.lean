/- What three disks have behind writes one after the other on each, and behind a crash: in plain terms. -/
import Derived.Test.YtggljcdkiaggeaaPow
namespace Go.Proofs.Ytggljcdkiaggeaa
open Go.RowKit
set_option linter.unusedVariables false
set_option linter.unusedSimpArgs false
namespace D
theorem look_crash_other {d : Dk} (h : Ok d) (ks : List Bool) {a a' : Nat} {x : List Nat} (ha : a < 52) (ha' : a' < 52) (hne : a ≠ a') (hx : x.length = 32) (h8 : ∀ y ∈ x, y < 256) :
    look (crash (write d a x) ks) a' = look (crash d ks) a' := by
  rw [look_crash (write_ok h ha hx h8) ks ha', look_crash h ks ha']
  show (kept (d.p ++ [(a, x)]) ks).foldl _ (d.l.getD a' []) = _
  rw [kept_snoc, List.foldl_append]
  split <;> simp [hne]
theorem kept_take : ∀ (p : List (Nat × List Nat)) (ks : List Bool), kept p (ks.take (min p.length ks.length)) = kept p ks
  | [], ks => by simp [kept]
  | v :: p, [] => by simp [kept]
  | v :: p, b :: ks => by
    have e : min (v :: p).length (b :: ks).length = min p.length ks.length + 1 := by simp only [List.length_cons]; omega
    rw [e, List.take_succ_cons]
    unfold kept
    rw [kept_take p ks]
theorem crash_take (d : Dk) (ks : List Bool) : crash d (ks.take (min d.p.length ks.length)) = crash d ks := by
  unfold crash
  rw [kept_take]
end D
theorem drop_min {α : Type} (ks : List α) (n : Nat) : ks.drop (min n ks.length) = ks.drop n := by
  by_cases h : n ≤ ks.length
  · rw [Nat.min_eq_left h]
  · rw [Nat.min_eq_right (by omega), List.drop_length, List.drop_eq_nil_of_le (by omega)]
namespace B
def cd (xs : Nat → Nat → List Nat) (d c : Nat) : D.Dk := { D.blank with p := (List.range c).map (fun a => (a, xs d a)) }
theorem cd_succ (xs : Nat → Nat → List Nat) (d c : Nat) : cd xs d (c + 1) = D.write (cd xs d c) c (xs d c) := by
  unfold cd D.write
  rw [List.range_succ, List.map_append]
  rfl
theorem cd_len (xs : Nat → Nat → List Nat) (d c : Nat) : (cd xs d c).p.length = c := by unfold cd; simp
theorem cd_ok (xs : Nat → Nat → List Nat) (hx : ∀ d i, (xs d i).length = 32 ∧ ∀ y ∈ xs d i, y < 256) (d c : Nat) (hc : c ≤ 52) : D.Ok (cd xs d c) := by
  induction c with
  | zero => exact D.blank_ok
  | succ c ih => rw [cd_succ]; exact D.write_ok (ih (by omega)) (by omega) (hx d c).1 (hx d c).2
theorem cd_crash (xs : Nat → Nat → List Nat) (hx : ∀ d i, (xs d i).length = 32 ∧ ∀ y ∈ xs d i, y < 256) (d c : Nat) (hc : c ≤ 52) (ks : List Bool) (a : Nat) (ha : a < 52) :
    D.look (D.crash (cd xs d c) ks) a = if a < c ∧ ks[a]? = some true then xs d a else List.replicate 32 0 := by
  induction c with
  | zero =>
    rw [if_neg (by omega), show D.crash (cd xs d 0) ks = D.blank from D.crash_idle rfl ks rfl]
    exact blank_look a ha
  | succ c ih =>
    have hok := cd_ok xs hx d c (by omega)
    rw [cd_succ]
    by_cases e : c = a
    · subst e
      rw [D.look_crash_write hok ks ha (hx d c).1 (hx d c).2, cd_len, ih (by omega)]
      by_cases h : ks[c]? = some true
      · rw [if_pos h, if_pos ⟨by omega, h⟩]
      · rw [if_neg h, if_neg (by omega), if_neg (fun h2 => h h2.2)]
    · rw [D.look_crash_other hok ks (by omega) ha e (hx d c).1 (hx d c).2, ih (by omega)]
      by_cases h : a < c ∧ ks[a]? = some true
      · rw [if_pos h, if_pos ⟨by omega, h.2⟩]
      · rw [if_neg h, if_neg (fun h2 => h ⟨by omega, h2.2⟩)]
/-- the bench of three disks behind c d writes on each disk d -/
def cb (xs : Nat → Nat → List Nat) (c : Nat → Nat) : Bn := ⟨((c 0 + c 1 + c 2 : Nat) : Int), -1, false, [cd xs 0 (c 0), cd xs 1 (c 1), cd xs 2 (c 2)]⟩
def upd (c : Nat → Nat) (d : Nat) (j : Nat) : Nat := if j = d then c d + 1 else c j
theorem cb_get (xs : Nat → Nat → List Nat) (c : Nat → Nat) {i : Nat} (hi : i < 3) : (cb xs c).ds[i]? = some (cd xs i (c i)) := by
  have : i = 0 ∨ i = 1 ∨ i = 2 := by omega
  rcases this with rfl | rfl | rfl <;> rfl
theorem upd_sum (c : Nat → Nat) {d : Nat} (hd : d < 3) : upd c d 0 + upd c d 1 + upd c d 2 = c 0 + c 1 + c 2 + 1 := by
  have : d = 0 ∨ d = 1 ∨ d = 2 := by omega
  rcases this with rfl | rfl | rfl <;> simp [upd] <;> omega
theorem cb_step (xs : Nat → Nat → List Nat) (hx : ∀ d i, (xs d i).length = 32) (c : Nat → Nat) {d : Nat} (hd : d < 3) (hc : c d < 52) :
    writeE (cb xs c) (d : Int) (c d : Nat) (xs d (c d)) = 0 ∧ write (cb xs c) (d : Int) (c d : Nat) (xs d (c d)) = cb xs (upd c d) := by
  obtain ⟨e1, e2⟩ := write_ok (b := cb xs c) (i := d) (a := c d) (x := xs d (c d)) rfl (cb_get xs c hd) rfl hc (hx d (c d)) (by show (-1 : Int) ≠ 0; decide)
  rw [e1, e2]
  refine ⟨rfl, ?_⟩
  have hs := upd_sum c hd
  unfold cb counted
  simp only
  rw [if_neg (by decide), hs]
  have h3 : d = 0 ∨ d = 1 ∨ d = 2 := by omega
  rcases h3 with rfl | rfl | rfl
  all_goals
    rw [← cd_succ]
    simp [upd]
theorem crashAll_cons (d : D.Dk) (ds : List D.Dk) (ks : List Bool) : crashAll (d :: ds) ks = D.crash d ks :: crashAll ds (ks.drop d.p.length) := by
  rw [crashAll, D.crash_take, drop_min]
theorem cb_crash (xs : Nat → Nat → List Nat) (c : Nat → Nat) (ks : List Bool) :
    crash (cb xs c) ks = ⟨((c 0 + c 1 + c 2 : Nat) : Int), -1, false, [D.crash (cd xs 0 (c 0)) ks, D.crash (cd xs 1 (c 1)) (ks.drop (c 0)), D.crash (cd xs 2 (c 2)) (ks.drop (c 0 + c 1))]⟩ := by
  unfold crash cb
  congr 1
  rw [crashAll_cons, crashAll_cons, crashAll_cons, cd_len, cd_len, List.drop_drop]
  rfl
/-- how many writes come ahead of a disk's -/
def ahead (c : Nat → Nat) : Nat → Nat
  | 0 => 0
  | 1 => c 0
  | _ => c 0 + c 1
theorem cb_crash_get (xs : Nat → Nat → List Nat) (hx : ∀ d i, (xs d i).length = 32 ∧ ∀ y ∈ xs d i, y < 256) (c : Nat → Nat) (hc : ∀ d, d < 3 → c d ≤ 52) (ks : List Bool) {i : Nat} (hi : i < 3) :
    ∃ d, (crash (cb xs c) ks).ds[i]? = some d ∧ d.f = false ∧ d.p = [] ∧ ∀ a, a < c i → D.look d a = if ks[ahead c i + a]? = some true then xs i a else List.replicate 32 0 := by
  rw [cb_crash]
  have key : ∀ (j : Nat) (ks' : List Bool), j < 3 → ∀ a, a < c j → D.look (D.crash (cd xs j (c j)) ks') a = if ks'[a]? = some true then xs j a else List.replicate 32 0 := fun j ks' hj a ha => by
    rw [cd_crash xs hx j (c j) (hc j hj) ks' a (by have := hc j hj; omega)]
    by_cases h : ks'[a]? = some true
    · rw [if_pos ⟨ha, h⟩, if_pos h]
    · rw [if_neg (fun h2 => h h2.2), if_neg h]
  have h3 : i = 0 ∨ i = 1 ∨ i = 2 := by omega
  rcases h3 with rfl | rfl | rfl
  · exact ⟨_, rfl, rfl, rfl, fun a ha => by rw [key 0 _ (by decide) a ha]; simp [ahead]⟩
  · exact ⟨_, rfl, rfl, rfl, fun a ha => by rw [key 1 _ (by decide) a ha, List.getElem?_drop]; rfl⟩
  · exact ⟨_, rfl, rfl, rfl, fun a ha => by rw [key 2 _ (by decide) a ha, List.getElem?_drop]; rfl⟩
theorem cb_crash_pend (xs : Nat → Nat → List Nat) (c : Nat → Nat) (ks : List Bool) : pending (crash (cb xs c) ks) = 0 := by
  rw [cb_crash]
  rfl
end B
end Go.Proofs.Ytggljcdkiaggeaa
