/- The walk of chapter 9's example. -/
import Derived.Test.YtgnnkglmlopldaaSupD
namespace Go.Proofs.Ytgnnkglmlopldaa
open Go.RowKit C
set_option linter.unusedVariables false
set_option linter.unusedSimpArgs false
set_option maxRecDepth 100000
set_option maxHeartbeats 4000000

theorem zero_sin : Sup.zero.In := ⟨⟨by decide, by decide⟩, Geo.zero_in, Geo.zero_in, ⟨by decide, by decide⟩, ⟨by decide, by decide⟩, ⟨by decide, by decide⟩⟩
theorem Sup.enc_four (s : Sup) : s.enc.take 4 = [87, 83, 85, 80] := by
  have h : s.enc.take 4 = (s.enc.take 28).take 4 := by rw [List.take_take]; rfl
  rw [h, s.enc_take]; rfl
theorem wakes9_any (w : World) : Calls Try.prog 24 #[] w fun e w' => e = .returned (.bool true) ∧ Below w.heap.size w w' := by
  have hz := fun W => sencode_no Sup.zero W zero_sin rfl
  have hy := fun W => sencode_yes 1 5 3 1 0 0 0 false 0 0 0 W ⟨1, ⟨5, 3, 1⟩, ⟨0, 0, 0⟩, false, 0, 0, 0⟩ rfl rfl
  obtain ⟨l, hl⟩ : ∃ l, l = Sup.enc ⟨1, ⟨5, 3, 1⟩, ⟨0, 0, 0⟩, false, 0, 0, 0⟩ := ⟨_, rfl⟩
  have h4 : Hid (l.take 4 = [87, 83, 85, 80]) := by rw [hl]; exact Sup.enc_four _
  have h32 : Hid (l.length = 32) := by rw [hl]; exact Sup.enc_len _
  rw [← hl] at hy
  unfold sv at hz hy
  have HZ := Lib.hid hz
  have HY := Lib.hid hy
  clear hz hy hl
  go_enter Try.func24, Try.ntmps24
  go_wp2_with fail
  refine Calls.mono (HZ.out _) ?_
  rintro e w1 ⟨rfl, b1⟩
  go_wp2_with fail
  refine Calls.mono (HY.out _) ?_
  rintro e w2 ⟨v, rfl, O2, b2⟩
  obtain ⟨ao, cap, rfl, q1, q2⟩ := O2.byt.shapeN h32.out
  have ht := (O2.byt.takeI (k := 4) (by decide))
  rw [h4.out] at ht
  have hc := ht.conv
  have hs : strB [87, 83, 85, 80] = ⟨#[87, 83, 85, 80]⟩ := rfl
  rw [hs] at hc
  clear hs ht O2
  go_wp2_with fail
  go_ret
  exact ⟨rfl, belT b1 b2⟩
end Go.Proofs.Ytgnnkglmlopldaa
