/- The law BackupBytes (chapter 19). True at every input. -/
import Derived.Test.YtenjpldinnbcbaaBkYb0
import Derived.Test.YtenjpldinnbcbaaBkYb1
import Derived.Test.YtenjpldinnbcbaaBkYb2
import Derived.Test.YtenjpldinnbcbaaBkYb3
import Derived.Test.YtenjpldinnbcbaaBkYb4
import Derived.Test.YtenjpldinnbcbaaBkYb5
import Derived.Test.YtenjpldinnbcbaaBkYg0
import Derived.Test.YtenjpldinnbcbaaBkYg1
namespace Go.Proofs.Ytenjpldinnbcbaa
open Go.RowKit
set_option linter.unusedVariables false
set_option linter.unusedSimpArgs false
set_option maxRecDepth 100000
set_option maxHeartbeats 4000000
attribute [local irreducible] Go.Calls Byt Own Parts PA BA Bools OwnD OwnT
theorem backupBytes_law (W : World) (e0 : Int) (he : -9223372036854775808 ≤ e0 ∧ e0 ≤ 9223372036854775807) (x0 : Int) (hx : -9223372036854775808 ≤ x0 ∧ x0 ≤ 9223372036854775807) (n0 : Int) (hn : -9223372036854775808 ≤ n0 ∧ n0 ≤ 9223372036854775807) (v : Value) (l : List Int) (s : Ints W v l) (hb : l.length * 8 ≤ 140737488351232) (alive : Int) (ha : -9223372036854775808 ≤ alive ∧ alive ≤ 9223372036854775807) (how : Int) (hh : -9223372036854775808 ≤ how ∧ how ≤ 9223372036854775807) :
    Calls Try.prog 6 #[.int .i64 e0, .int .i64 x0, .int .i64 n0, v, .int .i64 alive, .int .i64 how] W fun e W' => e = .returned (.bool true) ∧ Below W.heap.size W W' := by
  obtain ⟨n, hnn⟩ : ∃ k : Nat, (k : Int) = withinI n0 31 := ⟨(withinI n0 31).toNat, by have := withinI_ge n0 31; omega⟩
  obtain ⟨E, X, hEX⟩ : ∃ E X : Int, (how.tmod 7 = 6 ∧ E = e0 ∧ X = x0) ∨ (how.tmod 7 ≠ 6 ∧ E = withinI e0 65536 ∧ X = withinI x0 17) := by
    by_cases h7 : how.tmod 7 = 6
    · exact ⟨e0, x0, .inl ⟨h7, rfl, rfl⟩⟩
    · exact ⟨_, _, .inr ⟨h7, rfl, rfl⟩⟩
  by_cases c0 : E < 0
  · exact backupBytes_bad0 W e0 he x0 hx n0 hn v l s hb alive ha how hh E X hEX n hnn c0
  by_cases c1 : 65535 < E
  · exact backupBytes_bad1 W e0 he x0 hx n0 hn v l s hb alive ha how hh E X hEX n hnn c0 c1
  by_cases c2 : X < 0
  · exact backupBytes_bad2 W e0 he x0 hx n0 hn v l s hb alive ha how hh E X hEX n hnn c0 c1 c2
  by_cases c3 : 16 < X
  · exact backupBytes_bad3 W e0 he x0 hx n0 hn v l s hb alive ha how hh E X hEX n hnn c0 c1 c2 c3
  by_cases c4 : 28 < (n : Int)
  · exact backupBytes_bad4 W e0 he x0 hx n0 hn v l s hb alive ha how hh E X hEX n hnn c0 c1 c2 c3 c4
  by_cases cT : how.tmod 11 = 10 ∧ 0 < n
  · exact backupBytes_bad5 W e0 he x0 hx n0 hn v l s hb alive ha how hh E X hEX n hnn c0 c1 c2 c3 c4 cT
  obtain ⟨e, rfl⟩ : ∃ e : Nat, E = (e : Int) := ⟨E.toNat, by omega⟩
  obtain ⟨x, rfl⟩ : ∃ x : Nat, X = (x : Int) := ⟨X.toNat, by omega⟩
  by_cases h11 : how.tmod 11 = 10
  · exact backupBytes_good1 W e0 he x0 hx n0 hn v l s hb alive ha how hh e x (by omega) (by omega) hEX n hnn (by omega) h11 (fun h => cT ⟨h11, h⟩)
  · exact backupBytes_good0 W e0 he x0 hx n0 hn v l s hb alive ha how hh e x (by omega) (by omega) hEX n hnn (by omega) h11
end Go.Proofs.Ytenjpldinnbcbaa
