/- Geometries over plain numbers: which may be, their widths, which may follow which. No Go, no memory, no condition. -/
namespace Go.Proofs.Ytknodcaknopcnaa

structure Geo where
  l : Int
  d : Int
  c : Int
/-- may a geometry be? -/
def Geo.ok (g : Geo) : Bool := decide ((g.l = 5 ∧ 3 ≤ g.d ∨ g.l = 6 ∧ 4 ≤ g.d) ∧ g.d ≤ 8 ∧ (g.c = 1 ∨ g.c = 2 ∨ g.c = 4))
def Geo.budget (g : Geo) : Int := if g.ok then g.l - 4 else 0
def Geo.width (g : Geo) : Int := if g.ok then g.d - (g.l - 4) else 0
def Geo.same (a b : Geo) : Bool := decide (a.l = b.l ∧ a.d = b.d ∧ a.c = b.c)
def Geo.can (a b : Geo) : Bool := a.ok && b.ok && !a.same b && decide (a.d ≤ b.d ∧ a.l ≤ b.l ∧ a.width ≤ b.width)
/-- what the program answers: 0, or 1 -/
def Geo.err (g : Geo) : Int := if g.ok then 0 else 1
theorem Geo.err_yes {g : Geo} (h : g.ok = true) : g.err = 0 := by unfold Geo.err; rw [if_pos h]
theorem Geo.err_no {g : Geo} (h : g.ok = false) : g.err = 1 := by unfold Geo.err; rw [if_neg (by rw [h]; decide)]
def Geo.zero : Geo := ⟨0, 0, 0⟩
theorem Geo.ok_iff (g : Geo) : g.ok = true ↔ (g.l = 5 ∧ 3 ≤ g.d ∨ g.l = 6 ∧ 4 ≤ g.d) ∧ g.d ≤ 8 ∧ (g.c = 1 ∨ g.c = 2 ∨ g.c = 4) := by unfold Geo.ok; exact decide_eq_true_iff
theorem Geo.eq_iff (a b : Geo) : a = b ↔ a.l = b.l ∧ a.d = b.d ∧ a.c = b.c := by
  cases a; cases b; simp
theorem Geo.same_iff (a b : Geo) : a.same b = true ↔ a = b := by rw [Geo.eq_iff]; unfold Geo.same; exact decide_eq_true_iff
/-- whole numbers of the machine -/
def i64b (x : Int) : Prop := -9223372036854775808 ≤ x ∧ x ≤ 9223372036854775807
structure Geo.In (g : Geo) : Prop where
  l : i64b g.l
  d : i64b g.d
  c : i64b g.c
theorem Geo.ok_in {g : Geo} (h : g.ok = true) : g.In := by
  obtain ⟨h1, h2, h3⟩ := (Geo.ok_iff g).1 h
  refine ⟨⟨?_, ?_⟩, ⟨?_, ?_⟩, ⟨?_, ?_⟩⟩ <;> omega
end Go.Proofs.Ytknodcaknopcnaa
