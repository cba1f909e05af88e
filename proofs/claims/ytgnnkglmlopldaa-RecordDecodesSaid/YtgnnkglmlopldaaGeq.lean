/- Two geometries, two Supers: are they the same? What Go's == says. -/
import Derived.Test.YtgnnkglmlopldaaGeo
import Derived.Test.YtgnnkglmlopldaaKeep
import Derived.Laws.StructEq
namespace Go.Proofs.Ytgnnkglmlopldaa
open Go.RowKit
set_option linter.unusedVariables false
set_option linter.unusedSimpArgs false
set_option maxRecDepth 100000
set_option maxHeartbeats 1000000

theorem geq_in (n : Nat) (l d c l' d' c' : Int) (w : World) :
    (Op.equalIn (n + 2) 45 (.agg #[.int .i64 l, .int .i64 d, .int .i64 c]) (.agg #[.int .i64 l', .int .i64 d', .int .i64 c'])).run Try.prog w = .ok ((Geo.mk l d c).same (Geo.mk l' d' c')) w := by
  by_cases h1 : l = l'
  · by_cases h2 : d = d'
    · by_cases h3 : c = c'
      · have e : (Geo.mk l d c).same (Geo.mk l' d' c') = true := by rw [Geo.same_iff, Geo.eq_iff]; exact ⟨h1, h2, h3⟩
        rw [e]
        subst h1 h2 h3
        go_simp
      · have e : (Geo.mk l d c).same (Geo.mk l' d' c') = false := by unfold Geo.same; exact decide_eq_false (fun h => h3 h.2.2)
        have b : (c == c') = false := by rw [beq_eq_false_iff_ne]; exact h3
        rw [e]
        subst h1 h2
        clear h3
        go_simp
    · have e : (Geo.mk l d c).same (Geo.mk l' d' c') = false := by unfold Geo.same; exact decide_eq_false (fun h => h2 h.2.1)
      have b : (d == d') = false := by rw [beq_eq_false_iff_ne]; exact h2
      rw [e]
      subst h1
      clear h2
      go_simp
  · have e : (Geo.mk l d c).same (Geo.mk l' d' c') = false := by unfold Geo.same; exact decide_eq_false (fun h => h1 h.1)
    have b : (l == l') = false := by rw [beq_eq_false_iff_ne]; exact h1
    rw [e]
    clear h1
    go_simp
theorem geq_run (l d c l' d' c' : Int) (w : World) :
    (Op.equalIn 10000 45 (.agg #[.int .i64 l, .int .i64 d, .int .i64 c]) (.agg #[.int .i64 l', .int .i64 d', .int .i64 c'])).run Try.prog w = .ok ((Geo.mk l d c).same (Geo.mk l' d' c')) w := geq_in 9998 l d c l' d' c' w
end Go.Proofs.Ytgnnkglmlopldaa
