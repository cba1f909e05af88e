/- The walk of wattlekeep.Same over whole numbers. -/
import Derived.Test.YtknodcaknopcnaaEraM
import Derived.Test.YtknodcaknopcnaaKeep
namespace Go.Proofs.Ytknodcaknopcnaa
open Go.RowKit
set_option linter.unusedVariables false
set_option linter.unusedSimpArgs false
set_option maxRecDepth 100000
set_option maxHeartbeats 1000000

theorem samei_any (v v' : Value) (l m : List Int) (w : World) (h : Ints w v l) (h' : Ints w v' m) :
    Calls Try.prog 13 #[v, v'] w fun e w' => e = .returned (.bool (decide (l = m))) ∧ Dr w w' := by
  have HI := Lib.hid h
  have HI' := Lib.hid h'
  obtain ⟨ao, cap, rfl, hc1, hc2⟩ := h.shapeI
  obtain ⟨ao', cap', rfl, hc1', hc2'⟩ := h'.shapeI
  clear h h'
  by_cases hlen : l.length = m.length
  · have hb : ((l.length : Int) != (m.length : Int)) = false := by simp; omega
    go_enter Try.func13, Try.ntmps13
    go_wp2
    have HL := Lib.hid hlen
    go_loopw [5] (fun i wr => ∃ k : Nat, k ≤ l.length ∧ i = .int .i64 k ∧ Hid (∀ j, j < k → l[j]? = m[j]?) ∧ Dr w wr) (fun i _ => l.length - (intOf i).toNat)
    case atStart => exact ⟨0, Nat.zero_le _, rfl, Lib.hid (fun j hj => by omega), Dr.refl _⟩
    case round =>
      obtain ⟨k, hk, rfl, hall, ⟨q, rfl⟩⟩ := hrel
      clear hb
      by_cases hlt : k < l.length
      · have hlt' : k < m.length := by omega
        obtain ⟨b, off, x, rfl, hx, hkx, hx8⟩ := HI.out.cellAt hlt
        obtain ⟨b', off', y, rfl, hy, hky, hy8⟩ := HI'.out.cellAt hlt'
        by_cases hxy : x = y
        · have hb : (x != y) = false := by simp; omega
          have HX := Lib.hid hxy
          clear hxy hlen
          go_wp2
          go_quiet (fail)
          go_wp2
          go_roundw
          case rel =>
            refine ⟨k + 1, by omega, by go_num, Lib.hid (fun j hj => ?_), ?_⟩
            · by_cases hjk : j = k
              · rw [hjk, hkx.out, hky.out, HX.out]
              · exact hall.out j (by omega)
            · exact ⟨_, rfl⟩
          case measure => simp [intOf]; omega
        · have hb : (x != y) = true := by simp; omega
          have HX := Lib.hid hxy
          clear hxy hlen
          go_wp2
          go_quiet (fail)
          go_wp2
          go_ret
          refine ⟨?_, by first | exact ⟨_, rfl⟩ | exact Dr.step ⟨_, rfl⟩ _⟩
          have : l ≠ m := fun e => HX.out (Option.some.inj (hkx.out.symm.trans ((congrArg (·[k]?) e).trans hky.out)))
          simp [this]
      · clear hlen
        go_wp2
        go_ret
        refine ⟨?_, by first | exact ⟨_, rfl⟩ | exact Dr.step ⟨_, rfl⟩ _⟩
        have : l = m := List.ext_getElem? fun j => by
          by_cases hj : j < k
          · exact hall.out j hj
          · rw [List.getElem?_eq_none (by omega), List.getElem?_eq_none (by have := HL.out; omega)]
        simp [this]
  · have hb : ((l.length : Int) != (m.length : Int)) = true := by simp; omega
    have HL := Lib.hid hlen
    clear hlen
    go_enter Try.func13, Try.ntmps13
    go_wp2
    go_ret
    refine ⟨?_, Dr.refl _⟩
    have : l ≠ m := fun e => HL.out (congrArg List.length e)
    simp [this]
end Go.Proofs.Ytknodcaknopcnaa
