/- The walks of package geom and of the reference's geometries. -/
import Derived.Test.YtknodcaknopcnaaGeo
import Derived.Test.YtknodcaknopcnaaIdx
import Derived.Deep.RegionHeld3
namespace Go.Proofs.Ytknodcaknopcnaa
open Go.RowKit
set_option linter.unusedVariables false
set_option linter.unusedSimpArgs false
set_option maxRecDepth 100000
set_option maxHeartbeats 1000000

theorem boxed_cells {w w1 w2 : World} {cs : Array Value} {e : TypeId} {o : Obj} {fr : Nat × Nat} {b : Nat} (hb : b = w.heap.size + 1) (hg1 : ((w.alloc (.cells cs e fr)).alloc o).grownBy w1 (some b)) (hg2 : w1.grownBy w2 (some b)) (j : Nat) {v : Value} (hv : cs[j]? = some v) :
    w2.cell? ⟨w.heap.size, j, none⟩ = some v := by
  subst hb
  have h1 : (w.alloc (.cells cs e fr)).heap[w.heap.size]? = some (.cells cs e fr) := heap_alloc_new w _
  have hlt : w.heap.size < ((w.alloc (.cells cs e fr)).alloc o).heap.size := by simp; omega
  have h2 : ((w.alloc (.cells cs e fr)).alloc o).heap[w.heap.size]? = some (.cells cs e fr) := by rw [Below.heap_alloc _ _ _ (by simp)]; exact h1
  have h3 := hg1.block _ hlt (by simp)
  have h4 := hg2.block _ (Nat.lt_of_lt_of_le hlt hg1.size) (by simp)
  rw [cell_of_row w2 w.heap.size j cs e fr (h4.trans (h3.trans h2)), hv]
def leastI (l : Int) : Int := if l = 5 then 3 else if l = 6 then 4 else 0
theorem gcheck_any (l d c : Int) (w : World) (hl : i64b l) (hd : i64b d) (hc : i64b c) :
    Calls Try.prog 62 #[.agg #[.int .i64 l, .int .i64 d, .int .i64 c]] w fun e w' => e = .returned (.int .i64 (Geo.mk l d c).err) ∧ Below w.heap.size w w' := by
  have hz : ∀ w : World, (zeroValue 3).run Try.prog w = .ok (.int .i64 0) w := fun w => by kernel_rfl
  have HZ := Lib.hid hz
  have hg : ∀ x : Int, (getM (updM (updM [] 5 (.int .i64 3)) 6 (.int .i64 4)) x).getD (.int .i64 0) = .int .i64 (leastI x) := by
    intro x
    rw [getM_upd, getM_upd]; unfold leastI
    by_cases h6 : 6 = x
    · subst h6; rfl
    · rw [if_neg h6]
      by_cases h5 : 5 = x
      · subst h5; rfl
      · rw [if_neg h5, if_neg (fun e => h5 e.symm), if_neg (fun e => h6 e.symm)]; rfl
  have HG := Lib.hid hg
  have hok : (Geo.mk l d c).ok = decide (leastI l ≠ 0 ∧ leastI l ≤ d ∧ d ≤ 8 ∧ (c = 1 ∨ c = 2 ∨ c = 4)) := by
    unfold Geo.ok leastI
    rw [decide_eq_decide]
    show _ ↔ _
    dsimp only
    split
    · omega
    · split <;> omega
  have HOK := Lib.hid hok
  have hm1 : 0 ≤ leastI l ∧ leastI l ≤ 4 := by unfold leastI; split; omega; split <;> omega
  obtain ⟨m, hm⟩ : ∃ m, m = leastI l := ⟨_, rfl⟩
  rw [← hm] at hm1
  have HM := Lib.hid hm
  obtain ⟨hm1, hm2⟩ := hm1
  have hmem : memB [1, 2, 4] c = true ↔ (c = 1 ∨ c = 2 ∨ c = 4) := by rw [memB_iff]; simp
  obtain ⟨mb, hmb⟩ : ∃ mb, mb = memB [1, 2, 4] c := ⟨_, rfl⟩
  rw [← hmb] at hmem
  have HB := Lib.hid hmb
  clear hz hg hok hm hmb
  have hcs : (mb = true ∧ Hid (c = 1 ∨ c = 2 ∨ c = 4)) ∨ (mb = false ∧ Hid (¬ (c = 1 ∨ c = 2 ∨ c = 4))) := by
    cases mb
    · exact .inr ⟨rfl, Lib.hid fun h => by simpa using hmem.2 h⟩
    · exact .inl ⟨rfl, Lib.hid (hmem.1 rfl)⟩
  clear hmem
  rcases hcs with ⟨rfl, HC⟩ | ⟨rfl, HC⟩
  all_goals
    have hmm := @run_makeMap Try.prog
    go_enter Try.func62, Try.ntmps62
    go_wp2_with (first
      | (refine wpList_insertI rfl _ _ _ 82 rfl 3 3 .i64 Try.underlying82 Try.underlying3 (w.heap.size + 1) (updM [] 5 (.int .i64 3)) 6 (.int .i64 4) rfl rfl rfl hM1 ?_; intro w2 hM2 hg2 hs2; have hlook := hM2.look Try.underlying82 Try.underlying3 (HZ.out _) l; rw [HG.out, ← HM.out] at hlook; have c0 := boxed_cells rfl hg1 hg2 0 rfl; have c1 := boxed_cells rfl hg1 hg2 1 rfl; have c2 := boxed_cells rfl hg1 hg2 2 rfl)
      | (refine wpList_insertI rfl _ _ _ 82 rfl 3 3 .i64 Try.underlying82 Try.underlying3 (w.heap.size + 1) [] 5 (.int .i64 3) rfl rfl rfl (by simpa using MapI.made .i64 (w.alloc _)) ?_; intro w1 hM1 hg1 hs1)
      | (go_at_call 70; refine Calls.mono (contains_any _ [1, 2, 4] c _ (Ints.lit _ _ _ [1, 2, 4] (by rw [hs2, hs1]; simp) rfl rfl (by decide) (by decide)) hc) ?_; rw [← HB.out]; rintro e w3 ⟨rfl, D3⟩))
    all_goals
      go_ret
      refine ⟨ret_i64 ?_, ?_⟩
      · first
          | exact (Geo.err_yes (by rw [HOK.out, decide_eq_true_iff, ← HM.out]; exact ⟨by omega, by omega, by omega, HC.out⟩)).symm
          | (refine (Geo.err_no ?_).symm; rw [HOK.out, decide_eq_false_iff_not, ← HM.out]; rintro ⟨h1, h2, h3, h4⟩; first | omega | exact HC.out h4 | (rename_i hh _ _ _ _; simp at hh; omega) | (rename_i hh; simp at hh; omega))
      · have k1 : Below w.heap.size w w1 := (belA2 (belR w)).grown hg1 (by simp; omega) (fun g hg => by cases hg; omega)
        have k2 : Below w.heap.size w w2 := k1.grown hg2 k1.size (fun g hg => by cases hg; omega)
        first | exact k2 | exact belT (belAlloc k2 _) (D3.below _)
end Go.Proofs.Ytknodcaknopcnaa
