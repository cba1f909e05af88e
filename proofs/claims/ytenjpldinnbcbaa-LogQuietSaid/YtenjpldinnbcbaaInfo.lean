/- Small facts: the type of rows of bytes; a slice of bytes is one cell, and kept beside a row that grew. -/
import Derived.Test.YtenjpldinnbcbaaRowOwn
import Derived.Test.YtenjpldinnbcbaaKeep
namespace Go.Proofs.Ytenjpldinnbcbaa
open Go.RowKit
set_option linter.unusedVariables false
set_option linter.unusedSimpArgs false

theorem parts_info : (Try.prog.info? 48).map (fun i => (i.zero, i.size, i.bytes)) = some (some (.slice none 0 0), 1, 24) := by kernel_rfl
theorem int_info : (Try.prog.info? 3).map (fun i => (i.zero, i.size, i.bytes)) = some (some (.int .i64 0), 1, 8) := by kernel_rfl
theorem Byt.one {w : World} {v : Value} {l : List Nat} (h : Byt w v l) : v.oneCell' = true := by
  obtain ⟨ao, cap, rfl, _⟩ := h; rfl
theorem Byt.keptB {w w' : World} {u : Value} {b : List Nat} {row : Option Nat} (h : Byt w u b) (hg : w.grownBy w' row) (hne : b = [] ∨ ∀ g, u.ownBlock = some g → row ≠ some g) : Byt w' u b := by
  obtain ⟨ao, cap, rfl, h1, h2, h0, h3, hA⟩ := h
  refine ⟨ao, cap, rfl, h1, h2, h0, h3, ?_⟩
  rcases hne with rfl | hne
  · exact .inl rfl
  · exact hA.kept hg (fun a ha => hne _ (by rw [ha]; rfl))
theorem Byt.block_lt {w : World} {u : Value} {b : List Nat} (h : Byt w u b) (hb : b ≠ []) : ∀ g, u.ownBlock = some g → g < w.heap.size := by
  obtain ⟨ao, cap, rfl, h1, h2, h0, h3, hA⟩ := h
  intro g hg
  rcases hA with hA | ⟨b', off, rfl, hlt, _⟩
  · exact absurd (by simpa using hA) hb
  · cases hg; exact hlt
end Go.Proofs.Ytenjpldinnbcbaa
