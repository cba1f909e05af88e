/- Two Supers: are they the same? What Go's == says. -/
import Derived.Test.YtenjpldinnbcbaaSupA
import Derived.Test.YtenjpldinnbcbaaGeoA
namespace Go.Proofs.Ytenjpldinnbcbaa
open Go.RowKit
set_option linter.unusedVariables false
set_option linter.unusedSimpArgs false
set_option maxRecDepth 100000
set_option maxHeartbeats 4000000

theorem seq_run (s t : Sup) (w : World) : (Op.equalIn 10000 72 (sv s) (sv t)).run Try.prog w = .ok (s.same t) w := by
  have ha := geq_in 9997 s.a.l s.a.d s.a.c t.a.l t.a.d t.a.c
  have hb := geq_in 9997 s.b.l s.b.d s.b.c t.b.l t.b.d t.b.c
  have he : s.same t = ((s.gen == t.gen) && s.a.same t.a && s.b.same t.b && (s.run == t.run) && (s.win == t.win) && (s.ep == t.ep) && (s.out == t.out)) := rfl
  rw [he]
  unfold sv
  have ea : (Geo.mk s.a.l s.a.d s.a.c).same (Geo.mk t.a.l t.a.d t.a.c) = s.a.same t.a := rfl
  have eb : (Geo.mk s.b.l s.b.d s.b.c).same (Geo.mk t.b.l t.b.d t.b.c) = s.b.same t.b := rfl
  rw [ea] at ha
  rw [eb] at hb
  clear he ea eb
  cases h1 : (s.gen == t.gen) with
  | false => go_simp
  | true =>
    cases h2 : s.a.same t.a with
    | false => rw [h2] at ha; go_simp
    | true =>
      rw [h2] at ha
      cases h3 : s.b.same t.b with
      | false => rw [h3] at hb; go_simp
      | true =>
        rw [h3] at hb
        cases h4 : (s.run == t.run) with
        | false => go_simp
        | true =>
          cases h5 : (s.win == t.win) with
          | false => go_simp
          | true =>
            cases h6 : (s.ep == t.ep) with
            | false => go_simp
            | true =>
              cases h7 : (s.out == t.out) <;> go_simp
theorem refseq_run (s t : Sup) (w : World) : (Op.equalIn 10000 95 (sv s) (sv t)).run Try.prog w = .ok (s.same t) w := by
  have ha := geq_in 9997 s.a.l s.a.d s.a.c t.a.l t.a.d t.a.c
  have hb := geq_in 9997 s.b.l s.b.d s.b.c t.b.l t.b.d t.b.c
  have he : s.same t = ((s.gen == t.gen) && s.a.same t.a && s.b.same t.b && (s.run == t.run) && (s.win == t.win) && (s.ep == t.ep) && (s.out == t.out)) := rfl
  rw [he]
  unfold sv
  have ea : (Geo.mk s.a.l s.a.d s.a.c).same (Geo.mk t.a.l t.a.d t.a.c) = s.a.same t.a := rfl
  have eb : (Geo.mk s.b.l s.b.d s.b.c).same (Geo.mk t.b.l t.b.d t.b.c) = s.b.same t.b := rfl
  rw [ea] at ha
  rw [eb] at hb
  clear he ea eb
  cases h1 : (s.gen == t.gen) with
  | false => go_simp
  | true =>
    cases h2 : s.a.same t.a with
    | false => rw [h2] at ha; go_simp
    | true =>
      rw [h2] at ha
      cases h3 : s.b.same t.b with
      | false => rw [h3] at hb; go_simp
      | true =>
        rw [h3] at hb
        cases h4 : (s.run == t.run) with
        | false => go_simp
        | true =>
          cases h5 : (s.win == t.win) with
          | false => go_simp
          | true =>
            cases h6 : (s.ep == t.ep) with
            | false => go_simp
            | true =>
              cases h7 : (s.out == t.out) <;> go_simp
end Go.Proofs.Ytenjpldinnbcbaa
