/- Encode and the reference's EncodeSuper of any Super that may be. -/
import Derived.Test.YtgnnkglmlopldaaSupRD
import Derived.Test.YtgnnkglmlopldaaWk9
namespace Go.Proofs.Ytgnnkglmlopldaa
open Go.RowKit C
set_option linter.unusedVariables false
set_option linter.unusedSimpArgs false

theorem Geo.nat {g : Geo} (h : g.ok = true ∨ g = Geo.zero) : g = ⟨(g.l.toNat : Int), (g.d.toNat : Int), (g.c.toNat : Int)⟩ := by
  rcases h with h | h
  · obtain ⟨h1, h2, h3⟩ := (Geo.ok_iff g).1 h
    rw [Geo.eq_iff]
    refine ⟨?_, ?_, ?_⟩ <;> dsimp only <;> omega
  · rw [h]; rfl
theorem Sup.nat {s : Sup} (h : s.ok = true) : s = ⟨(s.gen.toNat : Int), ⟨(s.a.l.toNat : Int), (s.a.d.toNat : Int), (s.a.c.toNat : Int)⟩, ⟨(s.b.l.toNat : Int), (s.b.d.toNat : Int), (s.b.c.toNat : Int)⟩, s.run, (s.win.toNat : Int), (s.ep.toNat : Int), (s.out.toNat : Int)⟩ := by
  obtain ⟨h1, h2, h3, h4, h5⟩ := (Sup.ok_iff s).1 h
  obtain ⟨k1, k2, k3, k4⟩ := Sup.ok_more h
  rw [← Geo.nat (.inl k1), ← Geo.nat k2]
  obtain ⟨gen, a, b, run, win, ep, out⟩ := s
  simp only [Sup.mk.injEq, true_and]
  dsimp only at *
  omega
theorem sencode_ok (s : Sup) (w : World) (hk : s.ok = true) :
    Calls Try.prog 21 #[sv s] w fun e w' => ∃ v, e = .returned (.tuple #[v, .int .i64 0]) ∧ Own w' w.heap.size v s.enc ∧ Below w.heap.size w w' :=
  sencode_yes _ _ _ _ _ _ _ _ _ _ _ w s (Sup.nat hk) hk
theorem refsencode_ok (s : Sup) (w : World) (hk : s.ok = true) :
    Calls Try.prog 26 #[sv s] w fun e w' => ∃ v, e = .returned (.tuple #[v, .bool true]) ∧ Own w' w.heap.size v s.enc ∧ Below w.heap.size w w' :=
  refsencode_yes _ _ _ _ _ _ _ _ _ _ _ w s (Sup.nat hk) hk
end Go.Proofs.Ytgnnkglmlopldaa
