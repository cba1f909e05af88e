/-
  No cell of these rows narrows 'for every input' (looked for: loops, veiled, ifaces, maps, wideKeys, modest, calm, conditions, laid).
  DERIVED. THE GIVEN ROWS OF THIS SEAT. 12 by the template 'for every input the law returns true; each argument reads behind the call as it read before'; 0 by the template 'total and deterministic' (their statements: YtenjpldinnbcbaaTotals.lean).
  GIVEN WITH THE SEED: the statements are not yours to turn. If you find one false, say at which input.
  Laid BY PROGRAM, IN A SANDBOX (cutbox-rows.mjs): the forced cells as the released guide's own fill.sh prints them over the translation 5ac6392560510bca… (all of the seat's roots in one cut). By AI agents, Wed Nov 11 2026. No macro, syntax, notation, axiom, sorry.
-/
import Derived.Test.YtenjpldinnbcbaaChecked
import GoSem.Claim
import GoSem.ClaimJoined
import GoSem.ClaimMapViews
import Derived.JoinedTies
import Derived.KernelRfl
namespace Go.Proofs.Ytenjpldinnbcbaa
/- THE CELL 'sum', in the pinned program and in every row, IS THE sha256 OF THE DUMP (.gsa) THAT YtenjpldinnbcbaaProg.lean LOADS. Nothing in Lean hashes anything: it is a label: what it is worth is what the hold of that sum in a sandbox is worth. -/
noncomputable def Try.pinned : Pinned := { name := "ytenjpldinnbcbaa", sum := "5ac6392560510bca61565081cfb6ba06e052c9aaee99db31229a6caa11515bfd", checked := Try.checked }
namespace Rows
def none {H : Type} : Left H := { results := [], args := [] }

/-- 'wattlelaw19.BackupNewest': WHATEVER THE INPUT: true; the input reads as it did. -/
def backupNewestSpec : ChangeSpec := { name := "backupNewest", fn := fun _ => fun
  | [d1, d2] => { results := [.lit (.bool true)], args := [d1, d2] }
  | _ => none }
def backupNewestRow : OpenClaim := { program := "ytenjpldinnbcbaa", sum := "5ac6392560510bca61565081cfb6ba06e052c9aaee99db31229a6caa11515bfd", func := "wattle/wattlelaw19.BackupNewest", spec := "backupNewest", unfollowed := true, recurses := true, apart := false }
def BackupNewestSaid : Prop := backupNewestRow.holds Try.pinned (OpenSpec.ofChange backupNewestSpec)

/-- ITS FALSE NEIGHBOUR: 'it returns false'. Refute it at one input. -/
def backupNewestWrong : ChangeSpec := { name := "backupNewest", fn := fun _ => fun
  | [d1, d2] => { results := [.lit (.bool false)], args := [d1, d2] }
  | _ => none }
def BackupNewestWrongFalsely : Prop := backupNewestRow.holds Try.pinned (OpenSpec.ofChange backupNewestWrong)

/-- 'wattlelaw19.BackupMany': WHATEVER THE INPUT: true; the input reads as it did. -/
def backupManySpec : ChangeSpec := { name := "backupMany", fn := fun _ => fun
  | [d1, d2, d3, d4] => { results := [.lit (.bool true)], args := [d1, d2, d3, d4] }
  | _ => none }
def backupManyRow : OpenClaim := { program := "ytenjpldinnbcbaa", sum := "5ac6392560510bca61565081cfb6ba06e052c9aaee99db31229a6caa11515bfd", func := "wattle/wattlelaw19.BackupMany", spec := "backupMany", unfollowed := true, recurses := true, apart := false }
def BackupManySaid : Prop := backupManyRow.holds Try.pinned (OpenSpec.ofChange backupManySpec)

/-- ITS FALSE NEIGHBOUR: 'it returns false'. Refute it at one input. -/
def backupManyWrong : ChangeSpec := { name := "backupMany", fn := fun _ => fun
  | [d1, d2, d3, d4] => { results := [.lit (.bool false)], args := [d1, d2, d3, d4] }
  | _ => none }
def BackupManyWrongFalsely : Prop := backupManyRow.holds Try.pinned (OpenSpec.ofChange backupManyWrong)

/-- 'wattlelaw19.BackupLive': WHATEVER THE INPUT: true; the input reads as it did. -/
def backupLiveSpec : ChangeSpec := { name := "backupLive", fn := fun _ => fun
  | [d1, d2, d3] => { results := [.lit (.bool true)], args := [d1, d2, d3] }
  | _ => none }
def backupLiveRow : OpenClaim := { program := "ytenjpldinnbcbaa", sum := "5ac6392560510bca61565081cfb6ba06e052c9aaee99db31229a6caa11515bfd", func := "wattle/wattlelaw19.BackupLive", spec := "backupLive", unfollowed := true, recurses := true, apart := false }
def BackupLiveSaid : Prop := backupLiveRow.holds Try.pinned (OpenSpec.ofChange backupLiveSpec)

/-- ITS FALSE NEIGHBOUR: 'it returns false'. Refute it at one input. -/
def backupLiveWrong : ChangeSpec := { name := "backupLive", fn := fun _ => fun
  | [d1, d2, d3] => { results := [.lit (.bool false)], args := [d1, d2, d3] }
  | _ => none }
def BackupLiveWrongFalsely : Prop := backupLiveRow.holds Try.pinned (OpenSpec.ofChange backupLiveWrong)

/-- 'wattlelaw19.BackupBytes': WHATEVER THE INPUT: true; the input reads as it did. -/
def backupBytesSpec : ChangeSpec := { name := "backupBytes", fn := fun _ => fun
  | [d1, d2, d3, d4, d5, d6] => { results := [.lit (.bool true)], args := [d1, d2, d3, d4, d5, d6] }
  | _ => none }
def backupBytesRow : OpenClaim := { program := "ytenjpldinnbcbaa", sum := "5ac6392560510bca61565081cfb6ba06e052c9aaee99db31229a6caa11515bfd", func := "wattle/wattlelaw19.BackupBytes", spec := "backupBytes", unfollowed := true, recurses := true, apart := false }
def BackupBytesSaid : Prop := backupBytesRow.holds Try.pinned (OpenSpec.ofChange backupBytesSpec)

/-- ITS FALSE NEIGHBOUR: 'it returns false'. Refute it at one input. -/
def backupBytesWrong : ChangeSpec := { name := "backupBytes", fn := fun _ => fun
  | [d1, d2, d3, d4, d5, d6] => { results := [.lit (.bool false)], args := [d1, d2, d3, d4, d5, d6] }
  | _ => none }
def BackupBytesWrongFalsely : Prop := backupBytesRow.holds Try.pinned (OpenSpec.ofChange backupBytesWrong)

/-- 'wattlelaw12.LogGreatest': WHATEVER THE INPUT: true; the input reads as it did. -/
def logGreatestSpec : ChangeSpec := { name := "logGreatest", fn := fun _ => fun
  | [d1, d2, d3, d4, d5, d6] => { results := [.lit (.bool true)], args := [d1, d2, d3, d4, d5, d6] }
  | _ => none }
def logGreatestRow : OpenClaim := { program := "ytenjpldinnbcbaa", sum := "5ac6392560510bca61565081cfb6ba06e052c9aaee99db31229a6caa11515bfd", func := "wattle/wattlelaw12.LogGreatest", spec := "logGreatest", unfollowed := true, recurses := true, apart := false }
def LogGreatestSaid : Prop := logGreatestRow.holds Try.pinned (OpenSpec.ofChange logGreatestSpec)

/-- ITS FALSE NEIGHBOUR: 'it returns false'. Refute it at one input. -/
def logGreatestWrong : ChangeSpec := { name := "logGreatest", fn := fun _ => fun
  | [d1, d2, d3, d4, d5, d6] => { results := [.lit (.bool false)], args := [d1, d2, d3, d4, d5, d6] }
  | _ => none }
def LogGreatestWrongFalsely : Prop := logGreatestRow.holds Try.pinned (OpenSpec.ofChange logGreatestWrong)

/-- 'wattlelaw12.LogOne': WHATEVER THE INPUT: true; the input reads as it did. -/
def logOneSpec : ChangeSpec := { name := "logOne", fn := fun _ => fun
  | [d1, d2, d3, d4] => { results := [.lit (.bool true)], args := [d1, d2, d3, d4] }
  | _ => none }
def logOneRow : OpenClaim := { program := "ytenjpldinnbcbaa", sum := "5ac6392560510bca61565081cfb6ba06e052c9aaee99db31229a6caa11515bfd", func := "wattle/wattlelaw12.LogOne", spec := "logOne", unfollowed := true, recurses := true, apart := false }
def LogOneSaid : Prop := logOneRow.holds Try.pinned (OpenSpec.ofChange logOneSpec)

/-- ITS FALSE NEIGHBOUR: 'it returns false'. Refute it at one input. -/
def logOneWrong : ChangeSpec := { name := "logOne", fn := fun _ => fun
  | [d1, d2, d3, d4] => { results := [.lit (.bool false)], args := [d1, d2, d3, d4] }
  | _ => none }
def LogOneWrongFalsely : Prop := logOneRow.holds Try.pinned (OpenSpec.ofChange logOneWrong)

/-- 'wattlelaw10.SlotsErrors': WHATEVER THE INPUT: true; the input reads as it did. -/
def slotsErrorsSpec : ChangeSpec := { name := "slotsErrors", fn := fun _ => fun
  | [d1, d2] => { results := [.lit (.bool true)], args := [d1, d2] }
  | _ => none }
def slotsErrorsRow : OpenClaim := { program := "ytenjpldinnbcbaa", sum := "5ac6392560510bca61565081cfb6ba06e052c9aaee99db31229a6caa11515bfd", func := "wattle/wattlelaw10.SlotsErrors", spec := "slotsErrors", unfollowed := true, recurses := true, apart := false }
def SlotsErrorsSaid : Prop := slotsErrorsRow.holds Try.pinned (OpenSpec.ofChange slotsErrorsSpec)

/-- ITS FALSE NEIGHBOUR: 'it returns false'. Refute it at one input. -/
def slotsErrorsWrong : ChangeSpec := { name := "slotsErrors", fn := fun _ => fun
  | [d1, d2] => { results := [.lit (.bool false)], args := [d1, d2] }
  | _ => none }
def SlotsErrorsWrongFalsely : Prop := slotsErrorsRow.holds Try.pinned (OpenSpec.ofChange slotsErrorsWrong)

/-- 'wattlelaw10.SlotsTurns': WHATEVER THE INPUT: true; the input reads as it did. -/
def slotsTurnsSpec : ChangeSpec := { name := "slotsTurns", fn := fun _ => fun
  | [d1, d2, d3] => { results := [.lit (.bool true)], args := [d1, d2, d3] }
  | _ => none }
def slotsTurnsRow : OpenClaim := { program := "ytenjpldinnbcbaa", sum := "5ac6392560510bca61565081cfb6ba06e052c9aaee99db31229a6caa11515bfd", func := "wattle/wattlelaw10.SlotsTurns", spec := "slotsTurns", unfollowed := true, recurses := true, apart := false }
def SlotsTurnsSaid : Prop := slotsTurnsRow.holds Try.pinned (OpenSpec.ofChange slotsTurnsSpec)

/-- ITS FALSE NEIGHBOUR: 'it returns false'. Refute it at one input. -/
def slotsTurnsWrong : ChangeSpec := { name := "slotsTurns", fn := fun _ => fun
  | [d1, d2, d3] => { results := [.lit (.bool false)], args := [d1, d2, d3] }
  | _ => none }
def SlotsTurnsWrongFalsely : Prop := slotsTurnsRow.holds Try.pinned (OpenSpec.ofChange slotsTurnsWrong)

/-- 'wattlelaw12.LogQuiet': WHATEVER THE INPUT: true; the input reads as it did. -/
def logQuietSpec : ChangeSpec := { name := "logQuiet", fn := fun _ => fun
  | [d1, d2, d3, d4] => { results := [.lit (.bool true)], args := [d1, d2, d3, d4] }
  | _ => none }
def logQuietRow : OpenClaim := { program := "ytenjpldinnbcbaa", sum := "5ac6392560510bca61565081cfb6ba06e052c9aaee99db31229a6caa11515bfd", func := "wattle/wattlelaw12.LogQuiet", spec := "logQuiet", unfollowed := true, recurses := true, apart := false }
def LogQuietSaid : Prop := logQuietRow.holds Try.pinned (OpenSpec.ofChange logQuietSpec)

/-- ITS FALSE NEIGHBOUR: 'it returns false'. Refute it at one input. -/
def logQuietWrong : ChangeSpec := { name := "logQuiet", fn := fun _ => fun
  | [d1, d2, d3, d4] => { results := [.lit (.bool false)], args := [d1, d2, d3, d4] }
  | _ => none }
def LogQuietWrongFalsely : Prop := logQuietRow.holds Try.pinned (OpenSpec.ofChange logQuietWrong)

/-- 'wattlelaw10.SlotsOnly': WHATEVER THE INPUT: true; the input reads as it did. -/
def slotsOnlySpec : ChangeSpec := { name := "slotsOnly", fn := fun _ => fun
  | [d1, d2, d3, d4] => { results := [.lit (.bool true)], args := [d1, d2, d3, d4] }
  | _ => none }
def slotsOnlyRow : OpenClaim := { program := "ytenjpldinnbcbaa", sum := "5ac6392560510bca61565081cfb6ba06e052c9aaee99db31229a6caa11515bfd", func := "wattle/wattlelaw10.SlotsOnly", spec := "slotsOnly", unfollowed := true, recurses := true, apart := false }
def SlotsOnlySaid : Prop := slotsOnlyRow.holds Try.pinned (OpenSpec.ofChange slotsOnlySpec)

/-- ITS FALSE NEIGHBOUR: 'it returns false'. Refute it at one input. -/
def slotsOnlyWrong : ChangeSpec := { name := "slotsOnly", fn := fun _ => fun
  | [d1, d2, d3, d4] => { results := [.lit (.bool false)], args := [d1, d2, d3, d4] }
  | _ => none }
def SlotsOnlyWrongFalsely : Prop := slotsOnlyRow.holds Try.pinned (OpenSpec.ofChange slotsOnlyWrong)

/-- 'wattlelaw12.LogPlays': WHATEVER THE INPUT: true; the input reads as it did. -/
def logPlaysSpec : ChangeSpec := { name := "logPlays", fn := fun _ => fun
  | [d] => { results := [.lit (.bool true)], args := [d] }
  | _ => none }
def logPlaysRow : OpenClaim := { program := "ytenjpldinnbcbaa", sum := "5ac6392560510bca61565081cfb6ba06e052c9aaee99db31229a6caa11515bfd", func := "wattle/wattlelaw12.LogPlays", spec := "logPlays", unfollowed := true, recurses := true, apart := false }
def LogPlaysSaid : Prop := logPlaysRow.holds Try.pinned (OpenSpec.ofChange logPlaysSpec)

/-- ITS FALSE NEIGHBOUR: 'it returns false'. Refute it at one input. -/
def logPlaysWrong : ChangeSpec := { name := "logPlays", fn := fun _ => fun
  | [d] => { results := [.lit (.bool false)], args := [d] }
  | _ => none }
def LogPlaysWrongFalsely : Prop := logPlaysRow.holds Try.pinned (OpenSpec.ofChange logPlaysWrong)

/-- 'wattlelaw10.SlotsBest': WHATEVER THE INPUT: true; the input reads as it did. -/
def slotsBestSpec : ChangeSpec := { name := "slotsBest", fn := fun _ => fun
  | [d] => { results := [.lit (.bool true)], args := [d] }
  | _ => none }
def slotsBestRow : OpenClaim := { program := "ytenjpldinnbcbaa", sum := "5ac6392560510bca61565081cfb6ba06e052c9aaee99db31229a6caa11515bfd", func := "wattle/wattlelaw10.SlotsBest", spec := "slotsBest", unfollowed := true, recurses := true, apart := false }
def SlotsBestSaid : Prop := slotsBestRow.holds Try.pinned (OpenSpec.ofChange slotsBestSpec)

/-- ITS FALSE NEIGHBOUR: 'it returns false'. Refute it at one input. -/
def slotsBestWrong : ChangeSpec := { name := "slotsBest", fn := fun _ => fun
  | [d] => { results := [.lit (.bool false)], args := [d] }
  | _ => none }
def SlotsBestWrongFalsely : Prop := slotsBestRow.holds Try.pinned (OpenSpec.ofChange slotsBestWrong)

/- THE SECOND FORM. 'bulk': how many values and letters a reading holds, each counted each time it is reached (what is shared counts as often as it is met; a slice's spare places count too). A statement '..UptoSaid' is the law's where the arguments, and the package variables that the reading takes, are together of bulk at most 1048576: NARROWER than '..Said'. Prove '..Said' where nothing that the law and all that it calls make is longer than what came in: it says more and counts as full. Else prove '..UptoSaid'. A law counts once. -/
mutual
def uptoBulk {H : Type} : DataW H → Nat
  | .lit (.string bytes) => bytes.length + 1
  | .lit _ => 1
  | .nil => 1
  | .ptr d => uptoBulk d + 1
  | .slice elems spare => uptoBulkAll elems + uptoBulkAll spare + 1
  | .agg parts => uptoBulkAll parts + 1
  | .iface _ d => uptoBulk d + 1
  | .map entries => uptoBulkEntries entries + 1
  | .held _ => 1
def uptoBulkAll {H : Type} : List (DataW H) → Nat
  | [] => 0
  | d :: r => uptoBulk d + uptoBulkAll r
def uptoBulkEntries {H : Type} : List (Lit × DataW H) → Nat
  | [] => 0
  | x :: r => uptoBulkEntry x + uptoBulkEntries r
def uptoBulkEntry {H : Type} : Lit × DataW H → Nat
  | (.string bytes, d) => bytes.length + uptoBulk d + 1
  | (_, d) => uptoBulk d + 1
 end
def uptoSmall : (H : Type) → List (DataW H) → Bool := fun _ ds => decide (uptoBulkAll ds ≤ 1048576)
def OpenSpec.upto (s : _root_.Go.ChangeSpec) : _root_.Go.OpenSpec := { _root_.Go.OpenSpec.ofChange s with cond := some uptoSmall }

/-- 'wattlelaw19.BackupNewest', WHERE WHAT IT READS IS OF BULK AT MOST 1048576: true; the input reads as it did. -/
def backupNewestUptoRow : OpenClaim := { program := "ytenjpldinnbcbaa", sum := "5ac6392560510bca61565081cfb6ba06e052c9aaee99db31229a6caa11515bfd", func := "wattle/wattlelaw19.BackupNewest", spec := "backupNewest", unfollowed := true, recurses := true, apart := false, narrowed := true }
def BackupNewestUptoSaid : Prop := backupNewestUptoRow.holds Try.pinned (OpenSpec.upto backupNewestSpec)

/-- 'wattlelaw19.BackupMany', WHERE WHAT IT READS IS OF BULK AT MOST 1048576: true; the input reads as it did. -/
def backupManyUptoRow : OpenClaim := { program := "ytenjpldinnbcbaa", sum := "5ac6392560510bca61565081cfb6ba06e052c9aaee99db31229a6caa11515bfd", func := "wattle/wattlelaw19.BackupMany", spec := "backupMany", unfollowed := true, recurses := true, apart := false, narrowed := true }
def BackupManyUptoSaid : Prop := backupManyUptoRow.holds Try.pinned (OpenSpec.upto backupManySpec)

/-- 'wattlelaw19.BackupLive', WHERE WHAT IT READS IS OF BULK AT MOST 1048576: true; the input reads as it did. -/
def backupLiveUptoRow : OpenClaim := { program := "ytenjpldinnbcbaa", sum := "5ac6392560510bca61565081cfb6ba06e052c9aaee99db31229a6caa11515bfd", func := "wattle/wattlelaw19.BackupLive", spec := "backupLive", unfollowed := true, recurses := true, apart := false, narrowed := true }
def BackupLiveUptoSaid : Prop := backupLiveUptoRow.holds Try.pinned (OpenSpec.upto backupLiveSpec)

/-- 'wattlelaw19.BackupBytes', WHERE WHAT IT READS IS OF BULK AT MOST 1048576: true; the input reads as it did. -/
def backupBytesUptoRow : OpenClaim := { program := "ytenjpldinnbcbaa", sum := "5ac6392560510bca61565081cfb6ba06e052c9aaee99db31229a6caa11515bfd", func := "wattle/wattlelaw19.BackupBytes", spec := "backupBytes", unfollowed := true, recurses := true, apart := false, narrowed := true }
def BackupBytesUptoSaid : Prop := backupBytesUptoRow.holds Try.pinned (OpenSpec.upto backupBytesSpec)

/-- 'wattlelaw12.LogGreatest', WHERE WHAT IT READS IS OF BULK AT MOST 1048576: true; the input reads as it did. -/
def logGreatestUptoRow : OpenClaim := { program := "ytenjpldinnbcbaa", sum := "5ac6392560510bca61565081cfb6ba06e052c9aaee99db31229a6caa11515bfd", func := "wattle/wattlelaw12.LogGreatest", spec := "logGreatest", unfollowed := true, recurses := true, apart := false, narrowed := true }
def LogGreatestUptoSaid : Prop := logGreatestUptoRow.holds Try.pinned (OpenSpec.upto logGreatestSpec)

/-- 'wattlelaw12.LogOne', WHERE WHAT IT READS IS OF BULK AT MOST 1048576: true; the input reads as it did. -/
def logOneUptoRow : OpenClaim := { program := "ytenjpldinnbcbaa", sum := "5ac6392560510bca61565081cfb6ba06e052c9aaee99db31229a6caa11515bfd", func := "wattle/wattlelaw12.LogOne", spec := "logOne", unfollowed := true, recurses := true, apart := false, narrowed := true }
def LogOneUptoSaid : Prop := logOneUptoRow.holds Try.pinned (OpenSpec.upto logOneSpec)

/-- 'wattlelaw10.SlotsErrors', WHERE WHAT IT READS IS OF BULK AT MOST 1048576: true; the input reads as it did. -/
def slotsErrorsUptoRow : OpenClaim := { program := "ytenjpldinnbcbaa", sum := "5ac6392560510bca61565081cfb6ba06e052c9aaee99db31229a6caa11515bfd", func := "wattle/wattlelaw10.SlotsErrors", spec := "slotsErrors", unfollowed := true, recurses := true, apart := false, narrowed := true }
def SlotsErrorsUptoSaid : Prop := slotsErrorsUptoRow.holds Try.pinned (OpenSpec.upto slotsErrorsSpec)

/-- 'wattlelaw10.SlotsTurns', WHERE WHAT IT READS IS OF BULK AT MOST 1048576: true; the input reads as it did. -/
def slotsTurnsUptoRow : OpenClaim := { program := "ytenjpldinnbcbaa", sum := "5ac6392560510bca61565081cfb6ba06e052c9aaee99db31229a6caa11515bfd", func := "wattle/wattlelaw10.SlotsTurns", spec := "slotsTurns", unfollowed := true, recurses := true, apart := false, narrowed := true }
def SlotsTurnsUptoSaid : Prop := slotsTurnsUptoRow.holds Try.pinned (OpenSpec.upto slotsTurnsSpec)

/-- 'wattlelaw12.LogQuiet', WHERE WHAT IT READS IS OF BULK AT MOST 1048576: true; the input reads as it did. -/
def logQuietUptoRow : OpenClaim := { program := "ytenjpldinnbcbaa", sum := "5ac6392560510bca61565081cfb6ba06e052c9aaee99db31229a6caa11515bfd", func := "wattle/wattlelaw12.LogQuiet", spec := "logQuiet", unfollowed := true, recurses := true, apart := false, narrowed := true }
def LogQuietUptoSaid : Prop := logQuietUptoRow.holds Try.pinned (OpenSpec.upto logQuietSpec)

/-- 'wattlelaw10.SlotsOnly', WHERE WHAT IT READS IS OF BULK AT MOST 1048576: true; the input reads as it did. -/
def slotsOnlyUptoRow : OpenClaim := { program := "ytenjpldinnbcbaa", sum := "5ac6392560510bca61565081cfb6ba06e052c9aaee99db31229a6caa11515bfd", func := "wattle/wattlelaw10.SlotsOnly", spec := "slotsOnly", unfollowed := true, recurses := true, apart := false, narrowed := true }
def SlotsOnlyUptoSaid : Prop := slotsOnlyUptoRow.holds Try.pinned (OpenSpec.upto slotsOnlySpec)

/-- 'wattlelaw12.LogPlays', WHERE WHAT IT READS IS OF BULK AT MOST 1048576: true; the input reads as it did. -/
def logPlaysUptoRow : OpenClaim := { program := "ytenjpldinnbcbaa", sum := "5ac6392560510bca61565081cfb6ba06e052c9aaee99db31229a6caa11515bfd", func := "wattle/wattlelaw12.LogPlays", spec := "logPlays", unfollowed := true, recurses := true, apart := false, narrowed := true }
def LogPlaysUptoSaid : Prop := logPlaysUptoRow.holds Try.pinned (OpenSpec.upto logPlaysSpec)

/-- 'wattlelaw10.SlotsBest', WHERE WHAT IT READS IS OF BULK AT MOST 1048576: true; the input reads as it did. -/
def slotsBestUptoRow : OpenClaim := { program := "ytenjpldinnbcbaa", sum := "5ac6392560510bca61565081cfb6ba06e052c9aaee99db31229a6caa11515bfd", func := "wattle/wattlelaw10.SlotsBest", spec := "slotsBest", unfollowed := true, recurses := true, apart := false, narrowed := true }
def SlotsBestUptoSaid : Prop := slotsBestUptoRow.holds Try.pinned (OpenSpec.upto slotsBestSpec)

end Rows
end Go.Proofs.Ytenjpldinnbcbaa
