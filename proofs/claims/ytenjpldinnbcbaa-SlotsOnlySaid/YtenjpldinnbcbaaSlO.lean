/- Plain law of SlotsOnly. -/
import Derived.Test.YtenjpldinnbcbaaSlT
import Derived.Test.YtenjpldinnbcbaaLive2
import Derived.Test.YtenjpldinnbcbaaBenchK
namespace Go.Proofs.Ytenjpldinnbcbaa
open Go.RowKit C
set_option linter.unusedVariables false
set_option linter.unusedSimpArgs false
set_option maxRecDepth 100000
set_option maxHeartbeats 1000000

/-- a bench of four disks whose sectors are zeros or a law's -/
structure OI (c : B.Bn) : Prop where
  pw : B.Pw c
  len : c.ds.length = 4
  p : ∀ d ∈ c.ds, d.p.length ≤ 1000000
  w : 0 ≤ c.writes ∧ c.writes ≤ 1000
  f : ∀ d, d < 4 → B.failB c d = false
  sec : ∀ d a, d < 4 → a < 52 → B.lookB c d a = List.replicate 32 0 ∨ ∃ n, B.lookB c d a = secL n
theorem OI.zero : OI (B.fresh 4) where
  pw := (B.Up.fresh 4).pw
  len := B.fresh_len 4
  p := B.fresh_p 4
  w := ⟨Int.le_refl _, by show (0 : Int) ≤ 1000; decide⟩
  f := fun d _ => B.fresh_failB 4 d
  sec := fun d a _ ha => .inl (B.fresh_look 4 d a ha)
theorem OI.dmg {c : B.Bn} (h : OI c) {i a : Nat} (hi : i < 4) (ha : a < 52) (n : Int) : OI (B.dmgB c i a (secL n)) := by
  have hl := h.len
  obtain ⟨u1, w1, l1, f1, k1, p1⟩ := B.dmg_spec h.pw (i := i) (a := a) (by rw [hl]; exact hi) ha (secL_len n) (secL_byte n)
  refine ⟨u1, l1.trans hl, ps_le l1 (fun i _ => p1 i) h.p, by rw [w1]; exact h.w, fun d hd => by rw [f1]; exact h.f d hd, fun d b hd hb => ?_⟩
  rw [k1]
  by_cases hq : d = i ∧ B.failB c i = false ∧ b = a
  · rw [if_pos hq]; exact .inr ⟨n, rfl⟩
  · rw [if_neg hq]; exact h.sec d b hd hb
theorem OI.sups {c : B.Bn} (h : OI c) {d a : Nat} (hd : d < 4) (ha : a < 52) : B.supAt c d a = [] := by
  rcases h.sec d a hd ha with e | ⟨n, e⟩
  · exact B.supAt_zeros e
  · exact supAt_sec e
/-- behind a Store -/
theorem OI.store {c : B.Bn} (h : OI c) {lvs : List Bool} (h4 : lvs.length = 4) {s : Sup} (hs : s.ok = true) {k : Nat} (hk : k < 4) (hlk : B.live1 lvs k = true) :
    B.Pw (B.storeB c lvs (slotN s) s.enc) ∧ (B.storeB c lvs (slotN s) s.enc).ds.length = 4 ∧ B.bestN (B.storeB c lvs (slotN s) s.enc) 4 = s ∧ (List.range 4).map (fun d => B.nearB s (B.sups (B.storeB c lvs (slotN s) s.enc) d)) = lvs ∧
    (∀ d, d < 4 → B.failB (B.storeB c lvs (slotN s) s.enc) d = false) ∧ ∀ d a, d < 4 → a < 52 → ¬ (B.live1 lvs d = true ∧ a = slotN s) → B.lookB (B.storeB c lvs (slotN s) s.enc) d a = B.lookB c d a := by
  have hl := h.len
  have ha : slotN s < 2 := by unfold slotN; split <;> decide
  obtain ⟨u1, w1, l1, f1, k1, p1⟩ := B.store_spec h.pw lvs (a := slotN s) (by omega) (x := s.enc) s.enc_len s.enc_byte
  have hg := ((Sup.ok_iff s).1 hs).1
  have hsup : ∀ d, d < 4 → B.sups (B.storeB c lvs (slotN s) s.enc) d = if B.live1 lvs d = true then [s] else [] := fun d hd => by
    have e : ∀ a, a < 2 → B.supAt (B.storeB c lvs (slotN s) s.enc) d a = if B.live1 lvs d = true ∧ a = slotN s then [s] else [] := fun a ha2 => by
      rw [B.supAt_store h.pw lvs hs (by rw [hl]; exact hd) ha2 (h.f d hd), h.sups hd (by omega)]
    unfold B.sups
    rw [e 0 (by decide), e 1 (by decide)]
    by_cases hv : B.live1 lvs d = true
    · rw [if_pos hv]
      have : slotN s = 0 ∨ slotN s = 1 := by omega
      rcases this with h0 | h0
      · rw [h0, if_pos ⟨hv, rfl⟩, if_neg (fun h => absurd h.2 (by decide))]; rfl
      · rw [h0, if_neg (fun h => absurd h.2 (by decide)), if_pos ⟨hv, rfl⟩]; rfl
    · rw [if_neg hv, if_neg (fun h => hv h.1), if_neg (fun h => hv h.1)]; rfl
  refine ⟨u1, l1.trans hl, ?_, ?_, fun d hd => by rw [f1 d (by rw [hl]; exact hd)]; exact h.f d hd, fun d a hd ha52 hn => ?_⟩
  · refine (B.best_is (s := s) (by omega) 4 (fun i hi p hp => ?_)).2 ⟨k, hk, by rw [hsup k hk, if_pos hlk]; exact List.mem_singleton.2 rfl⟩
    rw [hsup i hi] at hp
    split at hp
    · exact .inl (by simpa using hp)
    · cases hp
  · have nn : ∀ d, d < 4 → B.nearB s (B.sups (B.storeB c lvs (slotN s) s.enc) d) = B.live1 lvs d := fun d hd => by
      rw [hsup d hd]
      by_cases hv : B.live1 lvs d = true
      · rw [if_pos hv, hv]; unfold B.nearB; simp; omega
      · rw [if_neg hv, show B.live1 lvs d = false by simpa using hv]; rfl
    match lvs, h4, nn with
    | [x, y, z, t], _, nn =>
      show [B.nearB s _, B.nearB s _, B.nearB s _, B.nearB s _] = _
      rw [nn 0 (by decide), nn 1 (by decide), nn 2 (by decide), nn 3 (by decide)]; rfl
  · rw [k1 d (by rw [hl]; exact hd) a ha52, if_neg (fun h => hn ⟨h.1, h.2.2⟩)]
end Go.Proofs.Ytenjpldinnbcbaa
