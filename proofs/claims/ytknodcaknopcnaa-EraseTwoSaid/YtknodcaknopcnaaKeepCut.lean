/- The walk of the laws' own Cut (only where the seat has it). -/
import Derived.Test.YtknodcaknopcnaaKeep
namespace Go.Proofs.Ytknodcaknopcnaa
open Go.RowKit
set_option linter.unusedVariables false
set_option linter.unusedSimpArgs false
set_option maxRecDepth 100000
set_option maxHeartbeats 1000000

theorem cut_any (v : Value) (l : List Nat) (n : Nat) (w : World) (h : Byt w v l) (hb : n ≤ 1048576) :
    Calls Try.prog 17 #[v, .int .i64 (n : Int)] w fun e w' => ∃ v', e = .returned v' ∧ Own w' w.heap.size v' (l.take n) ∧ Below w.heap.size w w' := by
  obtain ⟨ao, cap, rfl, hc1, hc2, hn, hl, hA⟩ := h
  have hlen : (l.take n).length ≤ 140737488355328 := by rw [List.length_take]; omega
  have hc3 := hc2
  unfold maxLen at hc2
  have HBn : Hid (n ≤ l.length → Byt w (.slice ao n cap) (l.take n)) := fun hle => Byt.mk (n := n) (by simp; omega) (by omega) hc3 hn (fun x hx => hl x (List.mem_of_mem_take hx)) (by rw [List.map_take]; exact hA.take n)
  have HBl : Hid (l.length ≤ n → Byt w (.slice ao l.length cap) (l.take n)) := fun hle => Byt.mk (n := l.length) (by simp; omega) (by omega) hc3 hn (fun x hx => hl x (List.mem_of_mem_take hx)) (by rw [List.map_take]; exact hA.take n)
  clear hA hl hn hc3
  go_enter Try.func17, Try.ntmps17
  go_wp2_with fail
  all_goals
    first
      | ((with_reducible refine (copy_any _ _ _ (HBn.out (by omega)) hlen).mono ?_); rintro e w1 ⟨v1, rfl, ho, hb1⟩)
      | ((with_reducible refine (copy_any _ _ _ (HBl.out (by omega)) hlen).mono ?_); rintro e w1 ⟨v1, rfl, ho, hb1⟩)
    go_wp2
    go_ret
    exact ⟨_, rfl, ho, hb1⟩
/-- the same, what is kept under a name of its own -/
theorem cut_ex (v : Value) (l : List Nat) (n : Nat) (w : World) (h : Byt w v l) (hb : n ≤ 1048576) :
    Calls Try.prog 17 #[v, .int .i64 (n : Int)] w fun e w' => ∃ v' l', e = .returned v' ∧ Hid (l' = l.take n) ∧ Own w' w.heap.size v' l' ∧ l'.length ≤ n ∧ Below w.heap.size w w' :=
  (cut_any v l n w h hb).mono fun e w' ⟨v', he, ho, hb⟩ => ⟨v', _, he, Lib.hid rfl, ho, by rw [List.length_take]; omega, hb⟩
end Go.Proofs.Ytknodcaknopcnaa
