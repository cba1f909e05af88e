/-
  No cell of these rows narrows 'for every input' (looked for: loops, veiled, ifaces, maps, wideKeys, modest, calm, conditions, laid).
  DERIVED. THE GIVEN ROWS OF THIS SEAT. 7 by the template 'for every input the law returns true; each argument reads behind the call as it read before'; 0 by the template 'total and deterministic' (their statements: YtknodcaknopcnaaTotals.lean).
  GIVEN WITH THE SEED: the statements are not yours to turn. If you find one false, say at which input.
  Laid BY PROGRAM, IN A SANDBOX (cutbox-rows.mjs): the forced cells as the released guide's own fill.sh prints them over the translation f6bdb185ce8bce7d… (all of the seat's roots in one cut). By AI agents, Wed Nov 11 2026. No macro, syntax, notation, axiom, sorry.
-/
import Derived.Test.YtknodcaknopcnaaChecked
import GoSem.Claim
import GoSem.ClaimJoined
import GoSem.ClaimMapViews
import Derived.JoinedTies
import Derived.KernelRfl
namespace Go.Proofs.Ytknodcaknopcnaa
/- THE CELL 'sum', in the pinned program and in every row, IS THE sha256 OF THE DUMP (.gsa) THAT YtknodcaknopcnaaProg.lean LOADS. Nothing in Lean hashes anything: it is a label: what it is worth is what the hold of that sum in a sandbox is worth. -/
noncomputable def Try.pinned : Pinned := { name := "ytknodcaknopcnaa", sum := "f6bdb185ce8bce7de3ab90eeb711aa113378896d4c0c2b3cfef9efe899ec3043", checked := Try.checked }
namespace Rows
def none {H : Type} : Left H := { results := [], args := [] }

/-- 'wattlelaw04.EraseForms': WHATEVER THE INPUT: true; the input reads as it did. -/
def eraseFormsSpec : ChangeSpec := { name := "eraseForms", fn := fun _ => fun
  | [d] => { results := [.lit (.bool true)], args := [d] }
  | _ => none }
def eraseFormsRow : OpenClaim := { program := "ytknodcaknopcnaa", sum := "f6bdb185ce8bce7de3ab90eeb711aa113378896d4c0c2b3cfef9efe899ec3043", func := "wattle/wattlelaw04.EraseForms", spec := "eraseForms", unfollowed := true, recurses := true, apart := false }
def EraseFormsSaid : Prop := eraseFormsRow.holds Try.pinned (OpenSpec.ofChange eraseFormsSpec)

/-- ITS FALSE NEIGHBOUR: 'it returns false'. Refute it at one input. -/
def eraseFormsWrong : ChangeSpec := { name := "eraseForms", fn := fun _ => fun
  | [d] => { results := [.lit (.bool false)], args := [d] }
  | _ => none }
def EraseFormsWrongFalsely : Prop := eraseFormsRow.holds Try.pinned (OpenSpec.ofChange eraseFormsWrong)

/-- 'wattlelaw04.EraseTwo': WHATEVER THE INPUT: true; the input reads as it did. -/
def eraseTwoSpec : ChangeSpec := { name := "eraseTwo", fn := fun _ => fun
  | [d1, d2, d3, d4, d5, d6] => { results := [.lit (.bool true)], args := [d1, d2, d3, d4, d5, d6] }
  | _ => none }
def eraseTwoRow : OpenClaim := { program := "ytknodcaknopcnaa", sum := "f6bdb185ce8bce7de3ab90eeb711aa113378896d4c0c2b3cfef9efe899ec3043", func := "wattle/wattlelaw04.EraseTwo", spec := "eraseTwo", unfollowed := true, recurses := true, apart := false }
def EraseTwoSaid : Prop := eraseTwoRow.holds Try.pinned (OpenSpec.ofChange eraseTwoSpec)

/-- ITS FALSE NEIGHBOUR: 'it returns false'. Refute it at one input. -/
def eraseTwoWrong : ChangeSpec := { name := "eraseTwo", fn := fun _ => fun
  | [d1, d2, d3, d4, d5, d6] => { results := [.lit (.bool false)], args := [d1, d2, d3, d4, d5, d6] }
  | _ => none }
def EraseTwoWrongFalsely : Prop := eraseTwoRow.holds Try.pinned (OpenSpec.ofChange eraseTwoWrong)

/-- 'wattlelaw13.RowZeros': WHATEVER THE INPUT: true; the input reads as it did. -/
def rowZerosSpec : ChangeSpec := { name := "rowZeros", fn := fun _ => fun
  | [d1, d2, d3, d4] => { results := [.lit (.bool true)], args := [d1, d2, d3, d4] }
  | _ => none }
def rowZerosRow : OpenClaim := { program := "ytknodcaknopcnaa", sum := "f6bdb185ce8bce7de3ab90eeb711aa113378896d4c0c2b3cfef9efe899ec3043", func := "wattle/wattlelaw13.RowZeros", spec := "rowZeros", unfollowed := true, recurses := true, apart := false }
def RowZerosSaid : Prop := rowZerosRow.holds Try.pinned (OpenSpec.ofChange rowZerosSpec)

/-- ITS FALSE NEIGHBOUR: 'it returns false'. Refute it at one input. -/
def rowZerosWrong : ChangeSpec := { name := "rowZeros", fn := fun _ => fun
  | [d1, d2, d3, d4] => { results := [.lit (.bool false)], args := [d1, d2, d3, d4] }
  | _ => none }
def RowZerosWrongFalsely : Prop := rowZerosRow.holds Try.pinned (OpenSpec.ofChange rowZerosWrong)

/-- 'wattlelaw13.RowChanges': WHATEVER THE INPUT: true; the input reads as it did. -/
def rowChangesSpec : ChangeSpec := { name := "rowChanges", fn := fun _ => fun
  | [d1, d2, d3, d4, d5] => { results := [.lit (.bool true)], args := [d1, d2, d3, d4, d5] }
  | _ => none }
def rowChangesRow : OpenClaim := { program := "ytknodcaknopcnaa", sum := "f6bdb185ce8bce7de3ab90eeb711aa113378896d4c0c2b3cfef9efe899ec3043", func := "wattle/wattlelaw13.RowChanges", spec := "rowChanges", unfollowed := true, recurses := true, apart := false }
def RowChangesSaid : Prop := rowChangesRow.holds Try.pinned (OpenSpec.ofChange rowChangesSpec)

/-- ITS FALSE NEIGHBOUR: 'it returns false'. Refute it at one input. -/
def rowChangesWrong : ChangeSpec := { name := "rowChanges", fn := fun _ => fun
  | [d1, d2, d3, d4, d5] => { results := [.lit (.bool false)], args := [d1, d2, d3, d4, d5] }
  | _ => none }
def RowChangesWrongFalsely : Prop := rowChangesRow.holds Try.pinned (OpenSpec.ofChange rowChangesWrong)

/-- 'wattlelaw13.RowForms': WHATEVER THE INPUT: true; the input reads as it did. -/
def rowFormsSpec : ChangeSpec := { name := "rowForms", fn := fun _ => fun
  | [d1, d2, d3] => { results := [.lit (.bool true)], args := [d1, d2, d3] }
  | _ => none }
def rowFormsRow : OpenClaim := { program := "ytknodcaknopcnaa", sum := "f6bdb185ce8bce7de3ab90eeb711aa113378896d4c0c2b3cfef9efe899ec3043", func := "wattle/wattlelaw13.RowForms", spec := "rowForms", unfollowed := true, recurses := true, apart := false }
def RowFormsSaid : Prop := rowFormsRow.holds Try.pinned (OpenSpec.ofChange rowFormsSpec)

/-- ITS FALSE NEIGHBOUR: 'it returns false'. Refute it at one input. -/
def rowFormsWrong : ChangeSpec := { name := "rowForms", fn := fun _ => fun
  | [d1, d2, d3] => { results := [.lit (.bool false)], args := [d1, d2, d3] }
  | _ => none }
def RowFormsWrongFalsely : Prop := rowFormsRow.holds Try.pinned (OpenSpec.ofChange rowFormsWrong)

/-- 'wattlelaw13.RowTurns': WHATEVER THE INPUT: true; the input reads as it did. -/
def rowTurnsSpec : ChangeSpec := { name := "rowTurns", fn := fun _ => fun
  | [d1, d2, d3, d4, d5, d6] => { results := [.lit (.bool true)], args := [d1, d2, d3, d4, d5, d6] }
  | _ => none }
def rowTurnsRow : OpenClaim := { program := "ytknodcaknopcnaa", sum := "f6bdb185ce8bce7de3ab90eeb711aa113378896d4c0c2b3cfef9efe899ec3043", func := "wattle/wattlelaw13.RowTurns", spec := "rowTurns", unfollowed := true, recurses := true, apart := false }
def RowTurnsSaid : Prop := rowTurnsRow.holds Try.pinned (OpenSpec.ofChange rowTurnsSpec)

/-- ITS FALSE NEIGHBOUR: 'it returns false'. Refute it at one input. -/
def rowTurnsWrong : ChangeSpec := { name := "rowTurns", fn := fun _ => fun
  | [d1, d2, d3, d4, d5, d6] => { results := [.lit (.bool false)], args := [d1, d2, d3, d4, d5, d6] }
  | _ => none }
def RowTurnsWrongFalsely : Prop := rowTurnsRow.holds Try.pinned (OpenSpec.ofChange rowTurnsWrong)

/-- 'wattlelaw13.RowLoses': WHATEVER THE INPUT: true; the input reads as it did. -/
def rowLosesSpec : ChangeSpec := { name := "rowLoses", fn := fun _ => fun
  | [d1, d2, d3, d4, d5, d6] => { results := [.lit (.bool true)], args := [d1, d2, d3, d4, d5, d6] }
  | _ => none }
def rowLosesRow : OpenClaim := { program := "ytknodcaknopcnaa", sum := "f6bdb185ce8bce7de3ab90eeb711aa113378896d4c0c2b3cfef9efe899ec3043", func := "wattle/wattlelaw13.RowLoses", spec := "rowLoses", unfollowed := true, recurses := true, apart := false }
def RowLosesSaid : Prop := rowLosesRow.holds Try.pinned (OpenSpec.ofChange rowLosesSpec)

/-- ITS FALSE NEIGHBOUR: 'it returns false'. Refute it at one input. -/
def rowLosesWrong : ChangeSpec := { name := "rowLoses", fn := fun _ => fun
  | [d1, d2, d3, d4, d5, d6] => { results := [.lit (.bool false)], args := [d1, d2, d3, d4, d5, d6] }
  | _ => none }
def RowLosesWrongFalsely : Prop := rowLosesRow.holds Try.pinned (OpenSpec.ofChange rowLosesWrong)

/- THE SECOND FORM. 'bulk': how many values and letters a reading holds, each counted each time it is reached (what is shared counts as often as it is met; a slice's spare places count too). A statement '..UptoSaid' is the law's where the arguments, and the package variables that the reading takes, are together of bulk at most 1048576: NARROWER than '..Said'. Prove '..Said' where nothing that the law and all that it calls make is longer than what came in: it says more and counts as full. Else prove '..UptoSaid'. A law counts once. -/
mutual
def uptoBulk {H : Type} : DataW H → Nat
  | .lit (.string bytes) => bytes.length + 1
  | .lit _ => 1
  | .nil => 1
  | .ptr d => uptoBulk d + 1
  | .slice elems spare => uptoBulkAll elems + uptoBulkAll spare + 1
  | .agg parts => uptoBulkAll parts + 1
  | .iface _ d => uptoBulk d + 1
  | .map entries => uptoBulkEntries entries + 1
  | .held _ => 1
def uptoBulkAll {H : Type} : List (DataW H) → Nat
  | [] => 0
  | d :: r => uptoBulk d + uptoBulkAll r
def uptoBulkEntries {H : Type} : List (Lit × DataW H) → Nat
  | [] => 0
  | x :: r => uptoBulkEntry x + uptoBulkEntries r
def uptoBulkEntry {H : Type} : Lit × DataW H → Nat
  | (.string bytes, d) => bytes.length + uptoBulk d + 1
  | (_, d) => uptoBulk d + 1
 end
def uptoSmall : (H : Type) → List (DataW H) → Bool := fun _ ds => decide (uptoBulkAll ds ≤ 1048576)
def OpenSpec.upto (s : _root_.Go.ChangeSpec) : _root_.Go.OpenSpec := { _root_.Go.OpenSpec.ofChange s with cond := some uptoSmall }

/-- 'wattlelaw04.EraseForms', WHERE WHAT IT READS IS OF BULK AT MOST 1048576: true; the input reads as it did. -/
def eraseFormsUptoRow : OpenClaim := { program := "ytknodcaknopcnaa", sum := "f6bdb185ce8bce7de3ab90eeb711aa113378896d4c0c2b3cfef9efe899ec3043", func := "wattle/wattlelaw04.EraseForms", spec := "eraseForms", unfollowed := true, recurses := true, apart := false, narrowed := true }
def EraseFormsUptoSaid : Prop := eraseFormsUptoRow.holds Try.pinned (OpenSpec.upto eraseFormsSpec)

/-- 'wattlelaw04.EraseTwo', WHERE WHAT IT READS IS OF BULK AT MOST 1048576: true; the input reads as it did. -/
def eraseTwoUptoRow : OpenClaim := { program := "ytknodcaknopcnaa", sum := "f6bdb185ce8bce7de3ab90eeb711aa113378896d4c0c2b3cfef9efe899ec3043", func := "wattle/wattlelaw04.EraseTwo", spec := "eraseTwo", unfollowed := true, recurses := true, apart := false, narrowed := true }
def EraseTwoUptoSaid : Prop := eraseTwoUptoRow.holds Try.pinned (OpenSpec.upto eraseTwoSpec)

/-- 'wattlelaw13.RowZeros', WHERE WHAT IT READS IS OF BULK AT MOST 1048576: true; the input reads as it did. -/
def rowZerosUptoRow : OpenClaim := { program := "ytknodcaknopcnaa", sum := "f6bdb185ce8bce7de3ab90eeb711aa113378896d4c0c2b3cfef9efe899ec3043", func := "wattle/wattlelaw13.RowZeros", spec := "rowZeros", unfollowed := true, recurses := true, apart := false, narrowed := true }
def RowZerosUptoSaid : Prop := rowZerosUptoRow.holds Try.pinned (OpenSpec.upto rowZerosSpec)

/-- 'wattlelaw13.RowChanges', WHERE WHAT IT READS IS OF BULK AT MOST 1048576: true; the input reads as it did. -/
def rowChangesUptoRow : OpenClaim := { program := "ytknodcaknopcnaa", sum := "f6bdb185ce8bce7de3ab90eeb711aa113378896d4c0c2b3cfef9efe899ec3043", func := "wattle/wattlelaw13.RowChanges", spec := "rowChanges", unfollowed := true, recurses := true, apart := false, narrowed := true }
def RowChangesUptoSaid : Prop := rowChangesUptoRow.holds Try.pinned (OpenSpec.upto rowChangesSpec)

/-- 'wattlelaw13.RowForms', WHERE WHAT IT READS IS OF BULK AT MOST 1048576: true; the input reads as it did. -/
def rowFormsUptoRow : OpenClaim := { program := "ytknodcaknopcnaa", sum := "f6bdb185ce8bce7de3ab90eeb711aa113378896d4c0c2b3cfef9efe899ec3043", func := "wattle/wattlelaw13.RowForms", spec := "rowForms", unfollowed := true, recurses := true, apart := false, narrowed := true }
def RowFormsUptoSaid : Prop := rowFormsUptoRow.holds Try.pinned (OpenSpec.upto rowFormsSpec)

/-- 'wattlelaw13.RowTurns', WHERE WHAT IT READS IS OF BULK AT MOST 1048576: true; the input reads as it did. -/
def rowTurnsUptoRow : OpenClaim := { program := "ytknodcaknopcnaa", sum := "f6bdb185ce8bce7de3ab90eeb711aa113378896d4c0c2b3cfef9efe899ec3043", func := "wattle/wattlelaw13.RowTurns", spec := "rowTurns", unfollowed := true, recurses := true, apart := false, narrowed := true }
def RowTurnsUptoSaid : Prop := rowTurnsUptoRow.holds Try.pinned (OpenSpec.upto rowTurnsSpec)

/-- 'wattlelaw13.RowLoses', WHERE WHAT IT READS IS OF BULK AT MOST 1048576: true; the input reads as it did. -/
def rowLosesUptoRow : OpenClaim := { program := "ytknodcaknopcnaa", sum := "f6bdb185ce8bce7de3ab90eeb711aa113378896d4c0c2b3cfef9efe899ec3043", func := "wattle/wattlelaw13.RowLoses", spec := "rowLoses", unfollowed := true, recurses := true, apart := false, narrowed := true }
def RowLosesUptoSaid : Prop := rowLosesUptoRow.holds Try.pinned (OpenSpec.upto rowLosesSpec)

end Rows
end Go.Proofs.Ytknodcaknopcnaa
