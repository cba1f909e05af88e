/- Encode and the reference's EncodeRecord of any record that may be; the walk of chapter 11's example. -/
import Derived.Test.YtenjpldinnbcbaaRecE
import Derived.Test.YtenjpldinnbcbaaBEq
namespace Go.Proofs.Ytenjpldinnbcbaa
open Go.RowKit C
set_option linter.unusedVariables false
set_option linter.unusedSimpArgs false
set_option maxRecDepth 100000
set_option maxHeartbeats 4000000

theorem rencode_ok (s : Int) (v : Value) (l : List RI) (w : World) (h : Items w v l) (hk : rok s l = true) :
    Calls Try.prog 66 #[.agg #[.int .i64 s, v]] w fun e w' => ∃ v', e = .returned (.tuple #[v', .int .i64 0]) ∧ OwnD w' w.heap.size v' (renc s l) (fun _ => False) ∧ Below w.heap.size w w' := by
  obtain ⟨n, rfl⟩ := Int.eq_ofNat_of_zero_le (show 0 ≤ s by have := ((rok_iff s l).1 hk).1; omega)
  exact rencode_yes n v l w h hk
theorem renc_four (s : Int) (l : List RI) (h : l.length ≤ 3) : ((renc s l).getD 0 []).take 4 = [87, 82, 69, 67] := by
  show (sealed (rfull s l) (rrows l)).take 4 = _
  have e : (sealed (rfull s l) (rrows l)).take 4 = ((sealed (rfull s l) (rrows l)).take 28).take 4 := by rw [List.take_take]; rfl
  rw [e, sealed_take _ (rfull_len s h), List.take_take]
  unfold rfull rhd
  rfl
theorem rok_one : rok 1 [] = true := rfl
end Go.Proofs.Ytenjpldinnbcbaa
