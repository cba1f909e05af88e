/- The walk of bytes.Equal. -/
import Derived.Test.YtenjpldinnbcbaaMoreF
import Derived.Test.YtenjpldinnbcbaaKeep
import Derived.Laws.IdiomStrings
import Derived.Laws.BytesArg
import Derived.Laws.StructEq
namespace Go.Proofs.Ytenjpldinnbcbaa
open Go.RowKit
set_option linter.unusedVariables false
set_option linter.unusedSimpArgs false
set_option maxRecDepth 100000
set_option maxHeartbeats 1000000

def strB (l : List Nat) : ByteArray := ⟨(l.map UInt8.ofNat).toArray⟩
theorem strB_inj {l m : List Nat} (hl : ∀ x ∈ l, x < 256) (hm : ∀ x ∈ m, x < 256) (h : strB l = strB m) : l = m := by
  have h2 : l.map UInt8.ofNat = m.map UInt8.ofNat := by
    have := congrArg (fun b : ByteArray => b.data.toList) h
    simpa [strB] using this
  have h3 := congrArg (List.map UInt8.toNat) h2
  have key : ∀ l : List Nat, (∀ x ∈ l, x < 256) → (l.map UInt8.ofNat).map UInt8.toNat = l := by
    intro l hl
    rw [List.map_map]
    conv => rhs; rw [← List.map_id l]
    exact List.map_congr_left fun x hx => by simp; exact hl x hx
  rw [key l hl, key m hm] at h3
  exact h3
theorem Byt.conv {w : World} {v : Value} {l : List Nat} (h : Byt w v l) : (convert 48 9 v).run Try.prog w = .ok (.string (strB l)) w := by
  obtain ⟨ao, cap, rfl, h1, h2, h0, h3, h4⟩ := h
  cases ao with
  | none =>
    have : l = [] := List.eq_nil_of_length_eq_zero (by have := h0 rfl; omega)
    subst this
    exact run_convert_bytes_nil w _ _ Try.underlying48 Try.underlying5 0 cap _ Try.underlying9
  | some a =>
    have := run_convert_bytes_back (P := Try.prog) w 48 9 5 a cap (l.map UInt8.ofNat) Try.underlying48 Try.underlying5 Try.underlying9 (fun j hj => by
      have hj' : j < l.length := by simpa using hj
      obtain ⟨b, off, x, e, hx, hk, h8⟩ := h4.byte h3 hj'
      cases e
      have e2 : l[j] = x := by
        have := hk.out
        rw [List.getElem?_eq_getElem hj'] at this
        exact Option.some.inj this
      rw [WideShapes.add_plain, hx]
      simp only [List.getElem_map, e2]
      congr 2
      simp
      omega)
    rw [List.length_map] at this
    exact this
theorem bequal_any (v v' : Value) (l m : List Nat) (w : World) (h : Byt w v l) (h' : Byt w v' m) :
    Calls Try.prog 97 #[v, v'] w fun e w' => e = .returned (.bool (decide (l = m))) ∧ w = w' := by
  have c1 := h.conv
  have c2 := h'.conv
  have hb := h.bytes
  have hb' := h'.bytes
  have h3 : decide (l = m) = ((strB l).toList == (strB m).toList) := by
    rw [← beq_toListBytes]
    have e : (strB l == strB m) = ((l.map UInt8.ofNat).toArray == (m.map UInt8.ofNat).toArray) := rfl
    rw [e, Bool.eq_iff_iff, decide_eq_true_iff, beq_iff_eq]
    exact ⟨fun e => by rw [e], fun e => strB_inj hb hb' (by unfold strB; rw [e])⟩
  have H3 := Lib.hid h3
  generalize strB l = s at *
  generalize strB m = t at *
  clear hb hb' h3 h h'
  go_enter Try.func97, Try.ntmps97
  go_wp2_with fail
  go_ret
  refine ⟨ret_bool ?_, rfl⟩
  rw [H3.out]
end Go.Proofs.Ytenjpldinnbcbaa
