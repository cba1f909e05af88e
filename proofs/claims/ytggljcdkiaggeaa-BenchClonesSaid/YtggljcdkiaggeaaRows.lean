/-
  No cell of these rows narrows 'for every input' (looked for: loops, veiled, ifaces, maps, wideKeys, modest, calm, conditions, laid).
  DERIVED. THE GIVEN ROWS OF THIS SEAT. 11 by the template 'for every input the law returns true; each argument reads behind the call as it read before'; 0 by the template 'total and deterministic' (their statements: YtggljcdkiaggeaaTotals.lean).
  GIVEN WITH THE SEED: the statements are not yours to turn. If you find one false, say at which input.
  Laid BY PROGRAM, IN A SANDBOX (cutbox-rows.mjs): the forced cells as the released guide's own fill.sh prints them over the translation 46602d68272c40bb… (all of the seat's roots in one cut). By AI agents, Wed Nov 11 2026. No macro, syntax, notation, axiom, sorry.
-/
import Derived.Test.YtggljcdkiaggeaaChecked
import GoSem.Claim
import GoSem.ClaimJoined
import GoSem.ClaimMapViews
import Derived.JoinedTies
import Derived.KernelRfl
namespace Go.Proofs.Ytggljcdkiaggeaa
/- THE CELL 'sum', in the pinned program and in every row, IS THE sha256 OF THE DUMP (.gsa) THAT YtggljcdkiaggeaaProg.lean LOADS. Nothing in Lean hashes anything: it is a label: what it is worth is what the hold of that sum in a sandbox is worth. -/
noncomputable def Try.pinned : Pinned := { name := "ytggljcdkiaggeaa", sum := "46602d68272c40bb46829a450fde96aa55826d60843d17fcdd901481a4fe78c7", checked := Try.checked }
namespace Rows
def none {H : Type} : Left H := { results := [], args := [] }

/-- 'wattlelaw05.DiskOrder': WHATEVER THE INPUT: true; the input reads as it did. -/
def diskOrderSpec : ChangeSpec := { name := "diskOrder", fn := fun _ => fun
  | [d1, d2] => { results := [.lit (.bool true)], args := [d1, d2] }
  | _ => none }
def diskOrderRow : OpenClaim := { program := "ytggljcdkiaggeaa", sum := "46602d68272c40bb46829a450fde96aa55826d60843d17fcdd901481a4fe78c7", func := "wattle/wattlelaw05.DiskOrder", spec := "diskOrder", apart := false }
def DiskOrderSaid : Prop := diskOrderRow.holds Try.pinned (OpenSpec.ofChange diskOrderSpec)

/-- ITS FALSE NEIGHBOUR: 'it returns false'. Refute it at one input. -/
def diskOrderWrong : ChangeSpec := { name := "diskOrder", fn := fun _ => fun
  | [d1, d2] => { results := [.lit (.bool false)], args := [d1, d2] }
  | _ => none }
def DiskOrderWrongFalsely : Prop := diskOrderRow.holds Try.pinned (OpenSpec.ofChange diskOrderWrong)

/-- 'wattlelaw05.DiskMemory': WHATEVER THE INPUT: true; the input reads as it did. -/
def diskMemorySpec : ChangeSpec := { name := "diskMemory", fn := fun _ => fun
  | [d1, d2, d3, d4] => { results := [.lit (.bool true)], args := [d1, d2, d3, d4] }
  | _ => none }
def diskMemoryRow : OpenClaim := { program := "ytggljcdkiaggeaa", sum := "46602d68272c40bb46829a450fde96aa55826d60843d17fcdd901481a4fe78c7", func := "wattle/wattlelaw05.DiskMemory", spec := "diskMemory", apart := false }
def DiskMemorySaid : Prop := diskMemoryRow.holds Try.pinned (OpenSpec.ofChange diskMemorySpec)

/-- ITS FALSE NEIGHBOUR: 'it returns false'. Refute it at one input. -/
def diskMemoryWrong : ChangeSpec := { name := "diskMemory", fn := fun _ => fun
  | [d1, d2, d3, d4] => { results := [.lit (.bool false)], args := [d1, d2, d3, d4] }
  | _ => none }
def DiskMemoryWrongFalsely : Prop := diskMemoryRow.holds Try.pinned (OpenSpec.ofChange diskMemoryWrong)

/-- 'wattlelaw05.DiskCrash': WHATEVER THE INPUT: true; the input reads as it did. -/
def diskCrashSpec : ChangeSpec := { name := "diskCrash", fn := fun _ => fun
  | [d1, d2, d3, d4] => { results := [.lit (.bool true)], args := [d1, d2, d3, d4] }
  | _ => none }
def diskCrashRow : OpenClaim := { program := "ytggljcdkiaggeaa", sum := "46602d68272c40bb46829a450fde96aa55826d60843d17fcdd901481a4fe78c7", func := "wattle/wattlelaw05.DiskCrash", spec := "diskCrash", apart := false }
def DiskCrashSaid : Prop := diskCrashRow.holds Try.pinned (OpenSpec.ofChange diskCrashSpec)

/-- ITS FALSE NEIGHBOUR: 'it returns false'. Refute it at one input. -/
def diskCrashWrong : ChangeSpec := { name := "diskCrash", fn := fun _ => fun
  | [d1, d2, d3, d4] => { results := [.lit (.bool false)], args := [d1, d2, d3, d4] }
  | _ => none }
def DiskCrashWrongFalsely : Prop := diskCrashRow.holds Try.pinned (OpenSpec.ofChange diskCrashWrong)

/-- 'wattlelaw05.DiskFlushes': WHATEVER THE INPUT: true; the input reads as it did. -/
def diskFlushesSpec : ChangeSpec := { name := "diskFlushes", fn := fun _ => fun
  | [d1, d2, d3] => { results := [.lit (.bool true)], args := [d1, d2, d3] }
  | _ => none }
def diskFlushesRow : OpenClaim := { program := "ytggljcdkiaggeaa", sum := "46602d68272c40bb46829a450fde96aa55826d60843d17fcdd901481a4fe78c7", func := "wattle/wattlelaw05.DiskFlushes", spec := "diskFlushes", apart := false }
def DiskFlushesSaid : Prop := diskFlushesRow.holds Try.pinned (OpenSpec.ofChange diskFlushesSpec)

/-- ITS FALSE NEIGHBOUR: 'it returns false'. Refute it at one input. -/
def diskFlushesWrong : ChangeSpec := { name := "diskFlushes", fn := fun _ => fun
  | [d1, d2, d3] => { results := [.lit (.bool false)], args := [d1, d2, d3] }
  | _ => none }
def DiskFlushesWrongFalsely : Prop := diskFlushesRow.holds Try.pinned (OpenSpec.ofChange diskFlushesWrong)

/-- 'wattlelaw05.DiskErrors': WHATEVER THE INPUT: true; the input reads as it did. -/
def diskErrorsSpec : ChangeSpec := { name := "diskErrors", fn := fun _ => fun
  | [d1, d2] => { results := [.lit (.bool true)], args := [d1, d2] }
  | _ => none }
def diskErrorsRow : OpenClaim := { program := "ytggljcdkiaggeaa", sum := "46602d68272c40bb46829a450fde96aa55826d60843d17fcdd901481a4fe78c7", func := "wattle/wattlelaw05.DiskErrors", spec := "diskErrors", unfollowed := true, recurses := true, apart := false }
def DiskErrorsSaid : Prop := diskErrorsRow.holds Try.pinned (OpenSpec.ofChange diskErrorsSpec)

/-- ITS FALSE NEIGHBOUR: 'it returns false'. Refute it at one input. -/
def diskErrorsWrong : ChangeSpec := { name := "diskErrors", fn := fun _ => fun
  | [d1, d2] => { results := [.lit (.bool false)], args := [d1, d2] }
  | _ => none }
def DiskErrorsWrongFalsely : Prop := diskErrorsRow.holds Try.pinned (OpenSpec.ofChange diskErrorsWrong)

/-- 'wattlelaw05.DiskPlays': WHATEVER THE INPUT: true; the input reads as it did. -/
def diskPlaysSpec : ChangeSpec := { name := "diskPlays", fn := fun _ => fun
  | [d1, d2] => { results := [.lit (.bool true)], args := [d1, d2] }
  | _ => none }
def diskPlaysRow : OpenClaim := { program := "ytggljcdkiaggeaa", sum := "46602d68272c40bb46829a450fde96aa55826d60843d17fcdd901481a4fe78c7", func := "wattle/wattlelaw05.DiskPlays", spec := "diskPlays", unfollowed := true, recurses := true, apart := false }
def DiskPlaysSaid : Prop := diskPlaysRow.holds Try.pinned (OpenSpec.ofChange diskPlaysSpec)

/-- ITS FALSE NEIGHBOUR: 'it returns false'. Refute it at one input. -/
def diskPlaysWrong : ChangeSpec := { name := "diskPlays", fn := fun _ => fun
  | [d1, d2] => { results := [.lit (.bool false)], args := [d1, d2] }
  | _ => none }
def DiskPlaysWrongFalsely : Prop := diskPlaysRow.holds Try.pinned (OpenSpec.ofChange diskPlaysWrong)

/-- 'wattlelaw06.BenchCrash': WHATEVER THE INPUT: true; the input reads as it did. -/
def benchCrashSpec : ChangeSpec := { name := "benchCrash", fn := fun _ => fun
  | [d1, d2] => { results := [.lit (.bool true)], args := [d1, d2] }
  | _ => none }
def benchCrashRow : OpenClaim := { program := "ytggljcdkiaggeaa", sum := "46602d68272c40bb46829a450fde96aa55826d60843d17fcdd901481a4fe78c7", func := "wattle/wattlelaw06.BenchCrash", spec := "benchCrash", apart := false }
def BenchCrashSaid : Prop := benchCrashRow.holds Try.pinned (OpenSpec.ofChange benchCrashSpec)

/-- ITS FALSE NEIGHBOUR: 'it returns false'. Refute it at one input. -/
def benchCrashWrong : ChangeSpec := { name := "benchCrash", fn := fun _ => fun
  | [d1, d2] => { results := [.lit (.bool false)], args := [d1, d2] }
  | _ => none }
def BenchCrashWrongFalsely : Prop := benchCrashRow.holds Try.pinned (OpenSpec.ofChange benchCrashWrong)

/-- 'wattlelaw06.BenchReplace': WHATEVER THE INPUT: true; the input reads as it did. -/
def benchReplaceSpec : ChangeSpec := { name := "benchReplace", fn := fun _ => fun
  | [d1, d2] => { results := [.lit (.bool true)], args := [d1, d2] }
  | _ => none }
def benchReplaceRow : OpenClaim := { program := "ytggljcdkiaggeaa", sum := "46602d68272c40bb46829a450fde96aa55826d60843d17fcdd901481a4fe78c7", func := "wattle/wattlelaw06.BenchReplace", spec := "benchReplace", apart := false }
def BenchReplaceSaid : Prop := benchReplaceRow.holds Try.pinned (OpenSpec.ofChange benchReplaceSpec)

/-- ITS FALSE NEIGHBOUR: 'it returns false'. Refute it at one input. -/
def benchReplaceWrong : ChangeSpec := { name := "benchReplace", fn := fun _ => fun
  | [d1, d2] => { results := [.lit (.bool false)], args := [d1, d2] }
  | _ => none }
def BenchReplaceWrongFalsely : Prop := benchReplaceRow.holds Try.pinned (OpenSpec.ofChange benchReplaceWrong)

/-- 'wattlelaw06.BenchPower': WHATEVER THE INPUT: true; the input reads as it did. -/
def benchPowerSpec : ChangeSpec := { name := "benchPower", fn := fun _ => fun
  | [d1, d2, d3] => { results := [.lit (.bool true)], args := [d1, d2, d3] }
  | _ => none }
def benchPowerRow : OpenClaim := { program := "ytggljcdkiaggeaa", sum := "46602d68272c40bb46829a450fde96aa55826d60843d17fcdd901481a4fe78c7", func := "wattle/wattlelaw06.BenchPower", spec := "benchPower", apart := false }
def BenchPowerSaid : Prop := benchPowerRow.holds Try.pinned (OpenSpec.ofChange benchPowerSpec)

/-- ITS FALSE NEIGHBOUR: 'it returns false'. Refute it at one input. -/
def benchPowerWrong : ChangeSpec := { name := "benchPower", fn := fun _ => fun
  | [d1, d2, d3] => { results := [.lit (.bool false)], args := [d1, d2, d3] }
  | _ => none }
def BenchPowerWrongFalsely : Prop := benchPowerRow.holds Try.pinned (OpenSpec.ofChange benchPowerWrong)

/-- 'wattlelaw06.BenchClones': WHATEVER THE INPUT: true; the input reads as it did. -/
def benchClonesSpec : ChangeSpec := { name := "benchClones", fn := fun _ => fun
  | [d1, d2, d3] => { results := [.lit (.bool true)], args := [d1, d2, d3] }
  | _ => none }
def benchClonesRow : OpenClaim := { program := "ytggljcdkiaggeaa", sum := "46602d68272c40bb46829a450fde96aa55826d60843d17fcdd901481a4fe78c7", func := "wattle/wattlelaw06.BenchClones", spec := "benchClones", apart := false }
def BenchClonesSaid : Prop := benchClonesRow.holds Try.pinned (OpenSpec.ofChange benchClonesSpec)

/-- ITS FALSE NEIGHBOUR: 'it returns false'. Refute it at one input. -/
def benchClonesWrong : ChangeSpec := { name := "benchClones", fn := fun _ => fun
  | [d1, d2, d3] => { results := [.lit (.bool false)], args := [d1, d2, d3] }
  | _ => none }
def BenchClonesWrongFalsely : Prop := benchClonesRow.holds Try.pinned (OpenSpec.ofChange benchClonesWrong)

/-- 'wattlelaw06.BenchPlays': WHATEVER THE INPUT: true; the input reads as it did. -/
def benchPlaysSpec : ChangeSpec := { name := "benchPlays", fn := fun _ => fun
  | [d1, d2, d3] => { results := [.lit (.bool true)], args := [d1, d2, d3] }
  | _ => none }
def benchPlaysRow : OpenClaim := { program := "ytggljcdkiaggeaa", sum := "46602d68272c40bb46829a450fde96aa55826d60843d17fcdd901481a4fe78c7", func := "wattle/wattlelaw06.BenchPlays", spec := "benchPlays", unfollowed := true, recurses := true, apart := false }
def BenchPlaysSaid : Prop := benchPlaysRow.holds Try.pinned (OpenSpec.ofChange benchPlaysSpec)

/-- ITS FALSE NEIGHBOUR: 'it returns false'. Refute it at one input. -/
def benchPlaysWrong : ChangeSpec := { name := "benchPlays", fn := fun _ => fun
  | [d1, d2, d3] => { results := [.lit (.bool false)], args := [d1, d2, d3] }
  | _ => none }
def BenchPlaysWrongFalsely : Prop := benchPlaysRow.holds Try.pinned (OpenSpec.ofChange benchPlaysWrong)

/- THE SECOND FORM. 'bulk': how many values and letters a reading holds, each counted each time it is reached (what is shared counts as often as it is met; a slice's spare places count too). A statement '..UptoSaid' is the law's where the arguments, and the package variables that the reading takes, are together of bulk at most 1048576: NARROWER than '..Said'. Prove '..Said' where nothing that the law and all that it calls make is longer than what came in: it says more and counts as full. Else prove '..UptoSaid'. A law counts once. -/
mutual
def uptoBulk {H : Type} : DataW H → Nat
  | .lit (.string bytes) => bytes.length + 1
  | .lit _ => 1
  | .nil => 1
  | .ptr d => uptoBulk d + 1
  | .slice elems spare => uptoBulkAll elems + uptoBulkAll spare + 1
  | .agg parts => uptoBulkAll parts + 1
  | .iface _ d => uptoBulk d + 1
  | .map entries => uptoBulkEntries entries + 1
  | .held _ => 1
def uptoBulkAll {H : Type} : List (DataW H) → Nat
  | [] => 0
  | d :: r => uptoBulk d + uptoBulkAll r
def uptoBulkEntries {H : Type} : List (Lit × DataW H) → Nat
  | [] => 0
  | x :: r => uptoBulkEntry x + uptoBulkEntries r
def uptoBulkEntry {H : Type} : Lit × DataW H → Nat
  | (.string bytes, d) => bytes.length + uptoBulk d + 1
  | (_, d) => uptoBulk d + 1
 end
def uptoSmall : (H : Type) → List (DataW H) → Bool := fun _ ds => decide (uptoBulkAll ds ≤ 1048576)
def OpenSpec.upto (s : _root_.Go.ChangeSpec) : _root_.Go.OpenSpec := { _root_.Go.OpenSpec.ofChange s with cond := some uptoSmall }

/-- 'wattlelaw05.DiskOrder', WHERE WHAT IT READS IS OF BULK AT MOST 1048576: true; the input reads as it did. -/
def diskOrderUptoRow : OpenClaim := { program := "ytggljcdkiaggeaa", sum := "46602d68272c40bb46829a450fde96aa55826d60843d17fcdd901481a4fe78c7", func := "wattle/wattlelaw05.DiskOrder", spec := "diskOrder", apart := false, narrowed := true }
def DiskOrderUptoSaid : Prop := diskOrderUptoRow.holds Try.pinned (OpenSpec.upto diskOrderSpec)

/-- 'wattlelaw05.DiskMemory', WHERE WHAT IT READS IS OF BULK AT MOST 1048576: true; the input reads as it did. -/
def diskMemoryUptoRow : OpenClaim := { program := "ytggljcdkiaggeaa", sum := "46602d68272c40bb46829a450fde96aa55826d60843d17fcdd901481a4fe78c7", func := "wattle/wattlelaw05.DiskMemory", spec := "diskMemory", apart := false, narrowed := true }
def DiskMemoryUptoSaid : Prop := diskMemoryUptoRow.holds Try.pinned (OpenSpec.upto diskMemorySpec)

/-- 'wattlelaw05.DiskCrash', WHERE WHAT IT READS IS OF BULK AT MOST 1048576: true; the input reads as it did. -/
def diskCrashUptoRow : OpenClaim := { program := "ytggljcdkiaggeaa", sum := "46602d68272c40bb46829a450fde96aa55826d60843d17fcdd901481a4fe78c7", func := "wattle/wattlelaw05.DiskCrash", spec := "diskCrash", apart := false, narrowed := true }
def DiskCrashUptoSaid : Prop := diskCrashUptoRow.holds Try.pinned (OpenSpec.upto diskCrashSpec)

/-- 'wattlelaw05.DiskFlushes', WHERE WHAT IT READS IS OF BULK AT MOST 1048576: true; the input reads as it did. -/
def diskFlushesUptoRow : OpenClaim := { program := "ytggljcdkiaggeaa", sum := "46602d68272c40bb46829a450fde96aa55826d60843d17fcdd901481a4fe78c7", func := "wattle/wattlelaw05.DiskFlushes", spec := "diskFlushes", apart := false, narrowed := true }
def DiskFlushesUptoSaid : Prop := diskFlushesUptoRow.holds Try.pinned (OpenSpec.upto diskFlushesSpec)

/-- 'wattlelaw05.DiskErrors', WHERE WHAT IT READS IS OF BULK AT MOST 1048576: true; the input reads as it did. -/
def diskErrorsUptoRow : OpenClaim := { program := "ytggljcdkiaggeaa", sum := "46602d68272c40bb46829a450fde96aa55826d60843d17fcdd901481a4fe78c7", func := "wattle/wattlelaw05.DiskErrors", spec := "diskErrors", unfollowed := true, recurses := true, apart := false, narrowed := true }
def DiskErrorsUptoSaid : Prop := diskErrorsUptoRow.holds Try.pinned (OpenSpec.upto diskErrorsSpec)

/-- 'wattlelaw05.DiskPlays', WHERE WHAT IT READS IS OF BULK AT MOST 1048576: true; the input reads as it did. -/
def diskPlaysUptoRow : OpenClaim := { program := "ytggljcdkiaggeaa", sum := "46602d68272c40bb46829a450fde96aa55826d60843d17fcdd901481a4fe78c7", func := "wattle/wattlelaw05.DiskPlays", spec := "diskPlays", unfollowed := true, recurses := true, apart := false, narrowed := true }
def DiskPlaysUptoSaid : Prop := diskPlaysUptoRow.holds Try.pinned (OpenSpec.upto diskPlaysSpec)

/-- 'wattlelaw06.BenchCrash', WHERE WHAT IT READS IS OF BULK AT MOST 1048576: true; the input reads as it did. -/
def benchCrashUptoRow : OpenClaim := { program := "ytggljcdkiaggeaa", sum := "46602d68272c40bb46829a450fde96aa55826d60843d17fcdd901481a4fe78c7", func := "wattle/wattlelaw06.BenchCrash", spec := "benchCrash", apart := false, narrowed := true }
def BenchCrashUptoSaid : Prop := benchCrashUptoRow.holds Try.pinned (OpenSpec.upto benchCrashSpec)

/-- 'wattlelaw06.BenchReplace', WHERE WHAT IT READS IS OF BULK AT MOST 1048576: true; the input reads as it did. -/
def benchReplaceUptoRow : OpenClaim := { program := "ytggljcdkiaggeaa", sum := "46602d68272c40bb46829a450fde96aa55826d60843d17fcdd901481a4fe78c7", func := "wattle/wattlelaw06.BenchReplace", spec := "benchReplace", apart := false, narrowed := true }
def BenchReplaceUptoSaid : Prop := benchReplaceUptoRow.holds Try.pinned (OpenSpec.upto benchReplaceSpec)

/-- 'wattlelaw06.BenchPower', WHERE WHAT IT READS IS OF BULK AT MOST 1048576: true; the input reads as it did. -/
def benchPowerUptoRow : OpenClaim := { program := "ytggljcdkiaggeaa", sum := "46602d68272c40bb46829a450fde96aa55826d60843d17fcdd901481a4fe78c7", func := "wattle/wattlelaw06.BenchPower", spec := "benchPower", apart := false, narrowed := true }
def BenchPowerUptoSaid : Prop := benchPowerUptoRow.holds Try.pinned (OpenSpec.upto benchPowerSpec)

/-- 'wattlelaw06.BenchClones', WHERE WHAT IT READS IS OF BULK AT MOST 1048576: true; the input reads as it did. -/
def benchClonesUptoRow : OpenClaim := { program := "ytggljcdkiaggeaa", sum := "46602d68272c40bb46829a450fde96aa55826d60843d17fcdd901481a4fe78c7", func := "wattle/wattlelaw06.BenchClones", spec := "benchClones", apart := false, narrowed := true }
def BenchClonesUptoSaid : Prop := benchClonesUptoRow.holds Try.pinned (OpenSpec.upto benchClonesSpec)

/-- 'wattlelaw06.BenchPlays', WHERE WHAT IT READS IS OF BULK AT MOST 1048576: true; the input reads as it did. -/
def benchPlaysUptoRow : OpenClaim := { program := "ytggljcdkiaggeaa", sum := "46602d68272c40bb46829a450fde96aa55826d60843d17fcdd901481a4fe78c7", func := "wattle/wattlelaw06.BenchPlays", spec := "benchPlays", unfollowed := true, recurses := true, apart := false, narrowed := true }
def BenchPlaysUptoSaid : Prop := benchPlaysUptoRow.holds Try.pinned (OpenSpec.upto benchPlaysSpec)

end Rows
end Go.Proofs.Ytggljcdkiaggeaa
