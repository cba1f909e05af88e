/- The walk of super.geometry; boxes of a Super's cells. -/
import Derived.Test.YtgnnkglmlopldaaSupE
import Derived.Test.YtgnnkglmlopldaaFr
namespace Go.Proofs.Ytgnnkglmlopldaa
open Go.RowKit C
set_option linter.unusedVariables false
set_option linter.unusedSimpArgs false
set_option maxRecDepth 100000
set_option maxHeartbeats 4000000

theorem bor64 {a c : Nat} (ha : a < 4294967296) (hc : c < 256) : bits .or .i64 ((a : Int) * 256) (c : Int) = ((a * 256 + c : Nat) : Int) := by
  show IntKind.i64.wrap ((BitVec.ofInt 64 ((a : Int) * 256) ||| BitVec.ofInt 64 (c : Int)).toNat : Int) = _
  rw [show ((a : Int) * 256) = ((a * 256 : Nat) : Int) by omega]
  simp only [BitVec.ofInt_natCast, IntKind.wrap_i64, BitVec.toNat_or, BitVec.toNat_ofNat]
  rw [Nat.mod_eq_of_lt (show a * 256 < 2 ^ 64 by omega), Nat.mod_eq_of_lt (show c < 2 ^ 64 by omega)]
  have : a * 256 ||| c = a * 256 + c := by
    have := Nat.shiftLeft_add_eq_or_of_lt (b := c) (i := 8) hc a
    rw [Nat.shiftLeft_eq] at this
    exact this.symm
  rw [this]; omega
theorem Byt.at3 {w : World} {ao : Option Addr} {n cap : Nat} {l : List Nat} (h : Byt w (.slice ao n cap) l) (h3 : 3 ≤ n) :
    ∃ b off, ao = some ⟨b, off, none⟩ ∧ w.cell? ⟨b, off, none⟩ = some (.int .u8 (l.getD 0 0 : Nat)) ∧ w.cell? ⟨b, off + 1, none⟩ = some (.int .u8 (l.getD 1 0 : Nat)) ∧ w.cell? ⟨b, off + 2, none⟩ = some (.int .u8 (l.getD 2 0 : Nat)) ∧ l.getD 0 0 < 256 ∧ l.getD 1 0 < 256 ∧ l.getD 2 0 < 256 := by
  obtain ⟨b, off, x, rfl, hx, hk, h8⟩ := h.get (k := 0) (by omega)
  obtain ⟨b', off', y, e, hy, hk', h8'⟩ := h.get (k := 1) (by omega)
  cases e
  obtain ⟨b', off', z, e, hz, hk'', h8''⟩ := h.get (k := 2) (by omega)
  cases e
  have e0 : l.getD 0 0 = x := by simp [List.getD, hk.out]
  have e1 : l.getD 1 0 = y := by simp [List.getD, hk'.out]
  have e2 : l.getD 2 0 = z := by simp [List.getD, hk''.out]
  rw [e0, e1, e2]
  exact ⟨b, off, rfl, hx, hy, hz, h8, h8', h8''⟩
theorem geometry_any (ao : Option Addr) (n cap : Nat) (l : List Nat) (w : World) (h : Byt w (.slice ao n cap) l) (h3 : 3 ≤ n) (hn : n ≤ 1048576) :
    Calls Try.prog 53 #[.slice ao n cap] w fun e w' => e = .returned (.agg #[.int .i64 (l.getD 0 0 : Nat), .int .i64 (l.getD 1 0 : Nat), .int .i64 (l.getD 2 0 : Nat)]) ∧ Below w.heap.size w w' := by
  obtain ⟨b, off, rfl, k0, k1, k2, x8, y8, z8⟩ := h.at3 h3
  generalize l.getD 0 0 = x at *
  generalize l.getD 1 0 = y at *
  generalize l.getD 2 0 = z at *
  clear h
  have x64 : IntKind.i64.wrap (x : Int) = (x : Int) := by rw [IntKind.wrap_i64]; omega
  have y64 : IntKind.i64.wrap (y : Int) = (y : Int) := by rw [IntKind.wrap_i64]; omega
  have z64 : IntKind.i64.wrap (z : Int) = (z : Int) := by rw [IntKind.wrap_i64]; omega
  have g0 : 0 < n := by omega
  have hlt := World.block_lt_of_cell? _ _ k0
  have HK : Hid (∀ W, Below w.heap.size w W → W.cell? ⟨b, off, none⟩ = some (.int .u8 (x : Nat)) ∧ W.cell? ⟨b, off + 1, none⟩ = some (.int .u8 (y : Nat)) ∧ W.cell? ⟨b, off + 2, none⟩ = some (.int .u8 (z : Nat))) := by
    intro W hW
    rw [hW.cell hlt, hW.cell (p := ⟨b, off + 1, none⟩) hlt, hW.cell (p := ⟨b, off + 2, none⟩) hlt]
    exact ⟨k0, k1, k2⟩
  have g1 : (0 : Int) < (n : Int) := by omega
  have g2 : (1 : Int) < (n : Int) := by omega
  have g3 : (2 : Int) < (n : Int) := by omega
  go_enter Try.func53, Try.ntmps53
  go_wp2_with fail
  go_region_held3 (fun W => W.cell? ⟨b, off, none⟩ = some (.int .u8 (x : Nat)) ∧ W.cell? ⟨b, off + 1, none⟩ = some (.int .u8 (y : Nat)) ∧ W.cell? ⟨b, off + 2, none⟩ = some (.int .u8 (z : Nat)))
    (first | (refine HK.out _ ?_; iterate 8 try (first | assumption | apply belDr | apply belAlloc | exact belR _)) | trace_state) (fail)
  go_wp2
  exact bodyPost_ret (v := .agg #[.int .i64 x, .int .i64 y, .int .i64 z]) (by simp [results, Try.results53, go_sem]) rfl ⟨rfl, belDr (belA1 (belR _))⟩
end Go.Proofs.Ytgnnkglmlopldaa
