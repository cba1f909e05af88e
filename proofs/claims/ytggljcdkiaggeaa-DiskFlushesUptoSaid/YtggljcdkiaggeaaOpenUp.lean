/- The opening of arguments with their bulk, for a statement that bears a bound. -/
import Derived.Test.YtggljcdkiaggeaaRows
import Derived.Test.YtggljcdkiaggeaaOpen
namespace Go.Proofs.Ytggljcdkiaggeaa
open Go.RowKit Go.ChangeShapes Go.WideShapes Go.ChangeAt
set_option linter.unusedVariables false
set_option linter.unusedSimpArgs false
theorem bulkAll_len {H : Type} (l : List (DataW H)) : l.length ≤ Rows.uptoBulkAll l := by
  induction l with
  | nil => simp
  | cons d l ih =>
    have hd : 1 ≤ Rows.uptoBulk d := by
      cases d with
      | lit x => cases x <;> simp [Rows.uptoBulk]
      | _ => simp [Rows.uptoBulk]
    rw [List.length_cons, Rows.uptoBulkAll]
    omega
section
variable {H : Type} {enc : TypeId × Value → H} {P : Program} {W : World} {t e q : TypeId} {v : Value} {d : DataW H} {p : List MemPlace} {base : Nat} {r : Reach} {ts : List TypeId} {ds : List (DataW H)} {j : Nat}
theorem open_ints64_up (ht : P.underlying t = some (.slice e)) (he : P.underlying e = some (.int .i64)) (hc : P.cellsOf e = 1)
    (hval : Value.okWide P W r base t v) (h : DataW.Trod enc P W 0 (fun _ => true) true t v d p) : ∃ l, Ints W v l ∧ l.length ≤ Rows.uptoBulk d := by
  obtain ⟨a0, len, cap, rfl⟩ := okWide_slice ht hval
  obtain ⟨fuel, hf⟩ := h
  rcases open_ints ht he hc hf with ⟨hcs, hx⟩ | ⟨a, len', cap', zs, hcs, _, hl, hm, hz, hx, hcell, hwz⟩
  · simp only [Value.cells, List.cons.injEq, Value.slice.injEq, and_true] at hcs
    obtain ⟨rfl, rfl, rfl⟩ := hcs
    exact ⟨[], ⟨none, 0, rfl, Nat.le_refl _, by simp [maxLen], fun _ => rfl, (fun x hx => by cases hx), .inl rfl⟩, by simp⟩
  · simp only [Value.cells, List.cons.injEq, Value.slice.injEq, and_true] at hcs
    obtain ⟨rfl, rfl, rfl⟩ := hcs
    simp only [if_true] at hz
    have hle : (zs.take len).length = len := by simp [hz]; omega
    have hb : ∀ n ∈ zs, -9223372036854775808 ≤ n ∧ n ≤ 9223372036854775807 := fun n hn => by simpa [Lit.wf, IntKind.min, IntKind.max, IntKind.signed, IntKind.bits] using hwz n hn
    refine ⟨zs.take len, ?_, ?_⟩
    · refine ⟨some a, cap, by rw [hle], by omega, hm, (fun e => by cases e), (fun x hx => hb x (List.mem_of_mem_take hx)), at_list fun i hi => ?_⟩
      have hi' : i < len := by rw [List.length_map, hle] at hi; exact hi
      rw [hcell i (by omega)]
      have hzi : i < zs.length := by omega
      simp [List.getD, hi', hzi, i64v]
    · simp only [Prod.mk.injEq] at hx
      rw [hx.1, Rows.uptoBulk]
      have h1 := bulkAll_len (lits (H := H) .i64 (zs.take len))
      simp only [lits, List.length_map] at h1 ⊢
      omega
end
end Go.Proofs.Ytggljcdkiaggeaa
