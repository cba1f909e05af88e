/- Encode and the reference's EncodeRecord of any record that may be; the walk of chapter 11's example. -/
import Derived.Test.YtgnnkglmlopldaaRecE
import Derived.Test.YtgnnkglmlopldaaRecRE
import Derived.Test.YtgnnkglmlopldaaBEq
namespace Go.Proofs.Ytgnnkglmlopldaa
open Go.RowKit C
set_option linter.unusedVariables false
set_option linter.unusedSimpArgs false
set_option maxRecDepth 100000
set_option maxHeartbeats 4000000

theorem rencode_ok (s : Int) (v : Value) (l : List RI) (w : World) (h : Items w v l) (hk : rok s l = true) :
    Calls Try.prog 14 #[.agg #[.int .i64 s, v]] w fun e w' => ∃ v', e = .returned (.tuple #[v', .int .i64 0]) ∧ OwnD w' w.heap.size v' (renc s l) (fun _ => False) ∧ Below w.heap.size w w' := by
  obtain ⟨n, rfl⟩ := Int.eq_ofNat_of_zero_le (show 0 ≤ s by have := ((rok_iff s l).1 hk).1; omega)
  exact rencode_yes n v l w h hk
theorem refrec_ok (s : Int) (v : Value) (l : List RI) (w : World) (h : Items w v l) (hk : rok s l = true) :
    Calls Try.prog 15 #[.int .i64 s, v] w fun e w' => ∃ v', e = .returned (.tuple #[v', .bool true]) ∧ OwnD w' w.heap.size v' (renc s l) (fun _ => False) ∧ Below w.heap.size w w' := by
  obtain ⟨n, rfl⟩ := Int.eq_ofNat_of_zero_le (show 0 ≤ s by have := ((rok_iff s l).1 hk).1; omega)
  exact refrec_yes n v l w h hk
theorem renc_four (s : Int) (l : List RI) (h : l.length ≤ 3) : ((renc s l).getD 0 []).take 4 = [87, 82, 69, 67] := by
  show (sealed (rfull s l) (rrows l)).take 4 = _
  have e : (sealed (rfull s l) (rrows l)).take 4 = ((sealed (rfull s l) (rrows l)).take 28).take 4 := by rw [List.take_take]; rfl
  rw [e, sealed_take _ (rfull_len s h), List.take_take]
  unfold rfull rhd
  rfl
theorem rok_one : rok 1 [] = true := rfl
theorem wakes11_any (w : World) : Calls Try.prog 19 #[] w fun e w' => e = .returned (.bool true) ∧ Below w.heap.size w w' := by
  have hy := fun W => rencode_ok 1 (.slice none 0 0) [] W (Items.nil W) rok_one
  obtain ⟨ls, hls⟩ : ∃ ls, ls = renc 1 [] := ⟨_, rfl⟩
  have h4 : Hid (ls.length = 4) := by rw [hls]; exact renc_len (by decide)
  have hq : Hid (∀ p, ls[0]? = some p → p.length = 32 ∧ p.take 4 = [87, 82, 69, 67]) := by
    intro p hp
    have h0 : p = ls.getD 0 [] := by simp [List.getD, hp]
    have hm := List.mem_of_getElem? hp
    rw [hls] at hm h0
    exact ⟨renc_32 (by decide) (fun x hx => by cases hx) p hm, by rw [h0]; exact renc_four 1 [] (by decide)⟩
  rw [← hls] at hy
  have HY := Lib.hid hy
  clear hy hls
  go_enter Try.func19, Try.ntmps19
  go_wp2_with fail
  refine Calls.mono (HY.out _) ?_
  rintro e w2 ⟨v, rfl, O2, b2⟩
  obtain ⟨ao, cap, e2, q1, q2⟩ := O2.shape
  rw [h4.out] at e2
  subst e2
  obtain ⟨rb, ro, c, p, rfl, hcr, hp, hoc, _⟩ := O2.get (k := 0) (by rw [h4.out]; decide)
  obtain ⟨hp32, hp4⟩ := hq.out p hp.out
  rw [Nat.add_zero] at hcr
  obtain ⟨ac, cc, rfl, k1, k2⟩ := hoc.byt.shapeN hp32
  have ht := (hoc.byt.takeI (k := 4) (by decide))
  rw [hp4] at ht
  have hc := ht.conv
  have hs : strB [87, 82, 69, 67] = ⟨#[87, 82, 69, 67]⟩ := rfl
  rw [hs] at hc
  clear hs ht O2 hoc hp
  go_wp2_with fail
  go_ret
  exact ⟨rfl, b2⟩
end Go.Proofs.Ytgnnkglmlopldaa
