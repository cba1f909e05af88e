/-
  No cell of these rows narrows 'for every input' (looked for: loops, veiled, ifaces, maps, wideKeys, modest, calm, conditions, laid).
  DERIVED. THE GIVEN ROWS OF THIS SEAT. 13 by the template 'for every input the law returns true; each argument reads behind the call as it read before'; 0 by the template 'total and deterministic' (their statements: YtghbbceephcifaaTotals.lean).
  GIVEN WITH THE SEED: the statements are not yours to turn. If you find one false, say at which input.
  Laid BY PROGRAM, IN A SANDBOX (cutbox-rows.mjs): the forced cells as the released guide's own fill.sh prints them over the translation 963740aaa1cfdd50… (all of the seat's roots in one cut). By AI agents, Wed Nov 11 2026. No macro, syntax, notation, axiom, sorry.
-/
import Derived.Test.YtghbbceephcifaaChecked
import GoSem.Claim
import GoSem.ClaimJoined
import GoSem.ClaimMapViews
import Derived.JoinedTies
import Derived.KernelRfl
namespace Go.Proofs.Ytghbbceephcifaa
/- THE CELL 'sum', in the pinned program and in every row, IS THE sha256 OF THE DUMP (.gsa) THAT YtghbbceephcifaaProg.lean LOADS. Nothing in Lean hashes anything: it is a label: what it is worth is what the hold of that sum in a sandbox is worth. -/
noncomputable def Try.pinned : Pinned := { name := "ytghbbceephcifaa", sum := "963740aaa1cfdd50f40326aabd5fe0c981fbd0f7ff704f96569552c8f9848e3d", checked := Try.checked }
namespace Rows
def none {H : Type} : Left H := { results := [], args := [] }

/-- 'wattlelaw01.CrcForms': WHATEVER THE INPUT: true; the input reads as it did. -/
def crcFormsSpec : ChangeSpec := { name := "crcForms", fn := fun _ => fun
  | [d] => { results := [.lit (.bool true)], args := [d] }
  | _ => none }
def crcFormsRow : OpenClaim := { program := "ytghbbceephcifaa", sum := "963740aaa1cfdd50f40326aabd5fe0c981fbd0f7ff704f96569552c8f9848e3d", func := "wattle/wattlelaw01.CrcForms", spec := "crcForms", apart := false }
def CrcFormsSaid : Prop := crcFormsRow.holds Try.pinned (OpenSpec.ofChange crcFormsSpec)

/-- ITS FALSE NEIGHBOUR: 'it returns false'. Refute it at one input. -/
def crcFormsWrong : ChangeSpec := { name := "crcForms", fn := fun _ => fun
  | [d] => { results := [.lit (.bool false)], args := [d] }
  | _ => none }
def CrcFormsWrongFalsely : Prop := crcFormsRow.holds Try.pinned (OpenSpec.ofChange crcFormsWrong)

/-- 'wattlelaw02.GfSquares': WHATEVER THE INPUT: true; the input reads as it did. -/
def gfSquaresSpec : ChangeSpec := { name := "gfSquares", fn := fun _ => fun
  | [d1, d2] => { results := [.lit (.bool true)], args := [d1, d2] }
  | _ => none }
def gfSquaresRow : OpenClaim := { program := "ytghbbceephcifaa", sum := "963740aaa1cfdd50f40326aabd5fe0c981fbd0f7ff704f96569552c8f9848e3d", func := "wattle/wattlelaw02.GfSquares", spec := "gfSquares", apart := false }
def GfSquaresSaid : Prop := gfSquaresRow.holds Try.pinned (OpenSpec.ofChange gfSquaresSpec)

/-- ITS FALSE NEIGHBOUR: 'it returns false'. Refute it at one input. -/
def gfSquaresWrong : ChangeSpec := { name := "gfSquares", fn := fun _ => fun
  | [d1, d2] => { results := [.lit (.bool false)], args := [d1, d2] }
  | _ => none }
def GfSquaresWrongFalsely : Prop := gfSquaresRow.holds Try.pinned (OpenSpec.ofChange gfSquaresWrong)

/-- 'wattlelaw01.CrcSeals': WHATEVER THE INPUT: true; the input reads as it did. -/
def crcSealsSpec : ChangeSpec := { name := "crcSeals", fn := fun _ => fun
  | [d1, d2, d3, d4] => { results := [.lit (.bool true)], args := [d1, d2, d3, d4] }
  | _ => none }
def crcSealsRow : OpenClaim := { program := "ytghbbceephcifaa", sum := "963740aaa1cfdd50f40326aabd5fe0c981fbd0f7ff704f96569552c8f9848e3d", func := "wattle/wattlelaw01.CrcSeals", spec := "crcSeals", apart := false }
def CrcSealsSaid : Prop := crcSealsRow.holds Try.pinned (OpenSpec.ofChange crcSealsSpec)

/-- ITS FALSE NEIGHBOUR: 'it returns false'. Refute it at one input. -/
def crcSealsWrong : ChangeSpec := { name := "crcSeals", fn := fun _ => fun
  | [d1, d2, d3, d4] => { results := [.lit (.bool false)], args := [d1, d2, d3, d4] }
  | _ => none }
def CrcSealsWrongFalsely : Prop := crcSealsRow.holds Try.pinned (OpenSpec.ofChange crcSealsWrong)

/-- 'wattlelaw01.CrcTells': WHATEVER THE INPUT: true; the input reads as it did. -/
def crcTellsSpec : ChangeSpec := { name := "crcTells", fn := fun _ => fun
  | [d1, d2, d3, d4] => { results := [.lit (.bool true)], args := [d1, d2, d3, d4] }
  | _ => none }
def crcTellsRow : OpenClaim := { program := "ytghbbceephcifaa", sum := "963740aaa1cfdd50f40326aabd5fe0c981fbd0f7ff704f96569552c8f9848e3d", func := "wattle/wattlelaw01.CrcTells", spec := "crcTells", apart := false }
def CrcTellsSaid : Prop := crcTellsRow.holds Try.pinned (OpenSpec.ofChange crcTellsSpec)

/-- ITS FALSE NEIGHBOUR: 'it returns false'. Refute it at one input. -/
def crcTellsWrong : ChangeSpec := { name := "crcTells", fn := fun _ => fun
  | [d1, d2, d3, d4] => { results := [.lit (.bool false)], args := [d1, d2, d3, d4] }
  | _ => none }
def CrcTellsWrongFalsely : Prop := crcTellsRow.holds Try.pinned (OpenSpec.ofChange crcTellsWrong)

/-- 'wattlelaw01.CrcParts': WHATEVER THE INPUT: true; the input reads as it did. -/
def crcPartsSpec : ChangeSpec := { name := "crcParts", fn := fun _ => fun
  | [d1, d2, d3, d4] => { results := [.lit (.bool true)], args := [d1, d2, d3, d4] }
  | _ => none }
def crcPartsRow : OpenClaim := { program := "ytghbbceephcifaa", sum := "963740aaa1cfdd50f40326aabd5fe0c981fbd0f7ff704f96569552c8f9848e3d", func := "wattle/wattlelaw01.CrcParts", spec := "crcParts", apart := false }
def CrcPartsSaid : Prop := crcPartsRow.holds Try.pinned (OpenSpec.ofChange crcPartsSpec)

/-- ITS FALSE NEIGHBOUR: 'it returns false'. Refute it at one input. -/
def crcPartsWrong : ChangeSpec := { name := "crcParts", fn := fun _ => fun
  | [d1, d2, d3, d4] => { results := [.lit (.bool false)], args := [d1, d2, d3, d4] }
  | _ => none }
def CrcPartsWrongFalsely : Prop := crcPartsRow.holds Try.pinned (OpenSpec.ofChange crcPartsWrong)

/-- 'wattlelaw02.GfForms': WHATEVER THE INPUT: true; the input reads as it did. -/
def gfFormsSpec : ChangeSpec := { name := "gfForms", fn := fun _ => fun
  | [d] => { results := [.lit (.bool true)], args := [d] }
  | _ => none }
def gfFormsRow : OpenClaim := { program := "ytghbbceephcifaa", sum := "963740aaa1cfdd50f40326aabd5fe0c981fbd0f7ff704f96569552c8f9848e3d", func := "wattle/wattlelaw02.GfForms", spec := "gfForms", apart := false }
def GfFormsSaid : Prop := gfFormsRow.holds Try.pinned (OpenSpec.ofChange gfFormsSpec)

/-- ITS FALSE NEIGHBOUR: 'it returns false'. Refute it at one input. -/
def gfFormsWrong : ChangeSpec := { name := "gfForms", fn := fun _ => fun
  | [d] => { results := [.lit (.bool false)], args := [d] }
  | _ => none }
def GfFormsWrongFalsely : Prop := gfFormsRow.holds Try.pinned (OpenSpec.ofChange gfFormsWrong)

/-- 'wattlelaw02.GfAll': WHATEVER THE INPUT: true; the input reads as it did. -/
def gfAllSpec : ChangeSpec := { name := "gfAll", fn := fun _ => fun
  | [d] => { results := [.lit (.bool true)], args := [d] }
  | _ => none }
def gfAllRow : OpenClaim := { program := "ytghbbceephcifaa", sum := "963740aaa1cfdd50f40326aabd5fe0c981fbd0f7ff704f96569552c8f9848e3d", func := "wattle/wattlelaw02.GfAll", spec := "gfAll", apart := false }
def GfAllSaid : Prop := gfAllRow.holds Try.pinned (OpenSpec.ofChange gfAllSpec)

/-- ITS FALSE NEIGHBOUR: 'it returns false'. Refute it at one input. -/
def gfAllWrong : ChangeSpec := { name := "gfAll", fn := fun _ => fun
  | [d] => { results := [.lit (.bool false)], args := [d] }
  | _ => none }
def GfAllWrongFalsely : Prop := gfAllRow.holds Try.pinned (OpenSpec.ofChange gfAllWrong)

/-- 'wattlelaw02.GfTells': WHATEVER THE INPUT: true; the input reads as it did. -/
def gfTellsSpec : ChangeSpec := { name := "gfTells", fn := fun _ => fun
  | [d1, d2, d3] => { results := [.lit (.bool true)], args := [d1, d2, d3] }
  | _ => none }
def gfTellsRow : OpenClaim := { program := "ytghbbceephcifaa", sum := "963740aaa1cfdd50f40326aabd5fe0c981fbd0f7ff704f96569552c8f9848e3d", func := "wattle/wattlelaw02.GfTells", spec := "gfTells", apart := false }
def GfTellsSaid : Prop := gfTellsRow.holds Try.pinned (OpenSpec.ofChange gfTellsSpec)

/-- ITS FALSE NEIGHBOUR: 'it returns false'. Refute it at one input. -/
def gfTellsWrong : ChangeSpec := { name := "gfTells", fn := fun _ => fun
  | [d1, d2, d3] => { results := [.lit (.bool false)], args := [d1, d2, d3] }
  | _ => none }
def GfTellsWrongFalsely : Prop := gfTellsRow.holds Try.pinned (OpenSpec.ofChange gfTellsWrong)

/-- 'wattlelaw02.GfField': WHATEVER THE INPUT: true; the input reads as it did. -/
def gfFieldSpec : ChangeSpec := { name := "gfField", fn := fun _ => fun
  | [d1, d2, d3, d4, d5] => { results := [.lit (.bool true)], args := [d1, d2, d3, d4, d5] }
  | _ => none }
def gfFieldRow : OpenClaim := { program := "ytghbbceephcifaa", sum := "963740aaa1cfdd50f40326aabd5fe0c981fbd0f7ff704f96569552c8f9848e3d", func := "wattle/wattlelaw02.GfField", spec := "gfField", apart := false }
def GfFieldSaid : Prop := gfFieldRow.holds Try.pinned (OpenSpec.ofChange gfFieldSpec)

/-- ITS FALSE NEIGHBOUR: 'it returns false'. Refute it at one input. -/
def gfFieldWrong : ChangeSpec := { name := "gfField", fn := fun _ => fun
  | [d1, d2, d3, d4, d5] => { results := [.lit (.bool false)], args := [d1, d2, d3, d4, d5] }
  | _ => none }
def GfFieldWrongFalsely : Prop := gfFieldRow.holds Try.pinned (OpenSpec.ofChange gfFieldWrong)

/-- 'wattlelaw03.SyndForms': WHATEVER THE INPUT: true; the input reads as it did. -/
def syndFormsSpec : ChangeSpec := { name := "syndForms", fn := fun _ => fun
  | [d] => { results := [.lit (.bool true)], args := [d] }
  | _ => none }
def syndFormsRow : OpenClaim := { program := "ytghbbceephcifaa", sum := "963740aaa1cfdd50f40326aabd5fe0c981fbd0f7ff704f96569552c8f9848e3d", func := "wattle/wattlelaw03.SyndForms", spec := "syndForms", unfollowed := true, recurses := true, apart := false }
def SyndFormsSaid : Prop := syndFormsRow.holds Try.pinned (OpenSpec.ofChange syndFormsSpec)

/-- ITS FALSE NEIGHBOUR: 'it returns false'. Refute it at one input. -/
def syndFormsWrong : ChangeSpec := { name := "syndForms", fn := fun _ => fun
  | [d] => { results := [.lit (.bool false)], args := [d] }
  | _ => none }
def SyndFormsWrongFalsely : Prop := syndFormsRow.holds Try.pinned (OpenSpec.ofChange syndFormsWrong)

/-- 'wattlelaw03.SyndMemory': WHATEVER THE INPUT: true; the input reads as it did. -/
def syndMemorySpec : ChangeSpec := { name := "syndMemory", fn := fun _ => fun
  | [d1, d2] => { results := [.lit (.bool true)], args := [d1, d2] }
  | _ => none }
def syndMemoryRow : OpenClaim := { program := "ytghbbceephcifaa", sum := "963740aaa1cfdd50f40326aabd5fe0c981fbd0f7ff704f96569552c8f9848e3d", func := "wattle/wattlelaw03.SyndMemory", spec := "syndMemory", unfollowed := true, recurses := true, apart := false }
def SyndMemorySaid : Prop := syndMemoryRow.holds Try.pinned (OpenSpec.ofChange syndMemorySpec)

/-- ITS FALSE NEIGHBOUR: 'it returns false'. Refute it at one input. -/
def syndMemoryWrong : ChangeSpec := { name := "syndMemory", fn := fun _ => fun
  | [d1, d2] => { results := [.lit (.bool false)], args := [d1, d2] }
  | _ => none }
def SyndMemoryWrongFalsely : Prop := syndMemoryRow.holds Try.pinned (OpenSpec.ofChange syndMemoryWrong)

/-- 'wattlelaw03.SyndTells': WHATEVER THE INPUT: true; the input reads as it did. -/
def syndTellsSpec : ChangeSpec := { name := "syndTells", fn := fun _ => fun
  | [d1, d2, d3] => { results := [.lit (.bool true)], args := [d1, d2, d3] }
  | _ => none }
def syndTellsRow : OpenClaim := { program := "ytghbbceephcifaa", sum := "963740aaa1cfdd50f40326aabd5fe0c981fbd0f7ff704f96569552c8f9848e3d", func := "wattle/wattlelaw03.SyndTells", spec := "syndTells", unfollowed := true, recurses := true, apart := false }
def SyndTellsSaid : Prop := syndTellsRow.holds Try.pinned (OpenSpec.ofChange syndTellsSpec)

/-- ITS FALSE NEIGHBOUR: 'it returns false'. Refute it at one input. -/
def syndTellsWrong : ChangeSpec := { name := "syndTells", fn := fun _ => fun
  | [d1, d2, d3] => { results := [.lit (.bool false)], args := [d1, d2, d3] }
  | _ => none }
def SyndTellsWrongFalsely : Prop := syndTellsRow.holds Try.pinned (OpenSpec.ofChange syndTellsWrong)

/-- 'wattlelaw03.SyndSplit': WHATEVER THE INPUT: true; the input reads as it did. -/
def syndSplitSpec : ChangeSpec := { name := "syndSplit", fn := fun _ => fun
  | [d1, d2, d3] => { results := [.lit (.bool true)], args := [d1, d2, d3] }
  | _ => none }
def syndSplitRow : OpenClaim := { program := "ytghbbceephcifaa", sum := "963740aaa1cfdd50f40326aabd5fe0c981fbd0f7ff704f96569552c8f9848e3d", func := "wattle/wattlelaw03.SyndSplit", spec := "syndSplit", unfollowed := true, recurses := true, apart := false }
def SyndSplitSaid : Prop := syndSplitRow.holds Try.pinned (OpenSpec.ofChange syndSplitSpec)

/-- ITS FALSE NEIGHBOUR: 'it returns false'. Refute it at one input. -/
def syndSplitWrong : ChangeSpec := { name := "syndSplit", fn := fun _ => fun
  | [d1, d2, d3] => { results := [.lit (.bool false)], args := [d1, d2, d3] }
  | _ => none }
def SyndSplitWrongFalsely : Prop := syndSplitRow.holds Try.pinned (OpenSpec.ofChange syndSplitWrong)

/- THE SECOND FORM. 'bulk': how many values and letters a reading holds, each counted each time it is reached (what is shared counts as often as it is met; a slice's spare places count too). A statement '..UptoSaid' is the law's where the arguments, and the package variables that the reading takes, are together of bulk at most 1048576: NARROWER than '..Said'. Prove '..Said' where nothing that the law and all that it calls make is longer than what came in: it says more and counts as full. Else prove '..UptoSaid'. A law counts once. -/
mutual
def uptoBulk {H : Type} : DataW H → Nat
  | .lit (.string bytes) => bytes.length + 1
  | .lit _ => 1
  | .nil => 1
  | .ptr d => uptoBulk d + 1
  | .slice elems spare => uptoBulkAll elems + uptoBulkAll spare + 1
  | .agg parts => uptoBulkAll parts + 1
  | .iface _ d => uptoBulk d + 1
  | .map entries => uptoBulkEntries entries + 1
  | .held _ => 1
def uptoBulkAll {H : Type} : List (DataW H) → Nat
  | [] => 0
  | d :: r => uptoBulk d + uptoBulkAll r
def uptoBulkEntries {H : Type} : List (Lit × DataW H) → Nat
  | [] => 0
  | x :: r => uptoBulkEntry x + uptoBulkEntries r
def uptoBulkEntry {H : Type} : Lit × DataW H → Nat
  | (.string bytes, d) => bytes.length + uptoBulk d + 1
  | (_, d) => uptoBulk d + 1
 end
def uptoSmall : (H : Type) → List (DataW H) → Bool := fun _ ds => decide (uptoBulkAll ds ≤ 1048576)
def OpenSpec.upto (s : _root_.Go.ChangeSpec) : _root_.Go.OpenSpec := { _root_.Go.OpenSpec.ofChange s with cond := some uptoSmall }

/-- 'wattlelaw01.CrcForms', WHERE WHAT IT READS IS OF BULK AT MOST 1048576: true; the input reads as it did. -/
def crcFormsUptoRow : OpenClaim := { program := "ytghbbceephcifaa", sum := "963740aaa1cfdd50f40326aabd5fe0c981fbd0f7ff704f96569552c8f9848e3d", func := "wattle/wattlelaw01.CrcForms", spec := "crcForms", apart := false, narrowed := true }
def CrcFormsUptoSaid : Prop := crcFormsUptoRow.holds Try.pinned (OpenSpec.upto crcFormsSpec)

/-- 'wattlelaw02.GfSquares', WHERE WHAT IT READS IS OF BULK AT MOST 1048576: true; the input reads as it did. -/
def gfSquaresUptoRow : OpenClaim := { program := "ytghbbceephcifaa", sum := "963740aaa1cfdd50f40326aabd5fe0c981fbd0f7ff704f96569552c8f9848e3d", func := "wattle/wattlelaw02.GfSquares", spec := "gfSquares", apart := false, narrowed := true }
def GfSquaresUptoSaid : Prop := gfSquaresUptoRow.holds Try.pinned (OpenSpec.upto gfSquaresSpec)

/-- 'wattlelaw01.CrcSeals', WHERE WHAT IT READS IS OF BULK AT MOST 1048576: true; the input reads as it did. -/
def crcSealsUptoRow : OpenClaim := { program := "ytghbbceephcifaa", sum := "963740aaa1cfdd50f40326aabd5fe0c981fbd0f7ff704f96569552c8f9848e3d", func := "wattle/wattlelaw01.CrcSeals", spec := "crcSeals", apart := false, narrowed := true }
def CrcSealsUptoSaid : Prop := crcSealsUptoRow.holds Try.pinned (OpenSpec.upto crcSealsSpec)

/-- 'wattlelaw01.CrcTells', WHERE WHAT IT READS IS OF BULK AT MOST 1048576: true; the input reads as it did. -/
def crcTellsUptoRow : OpenClaim := { program := "ytghbbceephcifaa", sum := "963740aaa1cfdd50f40326aabd5fe0c981fbd0f7ff704f96569552c8f9848e3d", func := "wattle/wattlelaw01.CrcTells", spec := "crcTells", apart := false, narrowed := true }
def CrcTellsUptoSaid : Prop := crcTellsUptoRow.holds Try.pinned (OpenSpec.upto crcTellsSpec)

/-- 'wattlelaw01.CrcParts', WHERE WHAT IT READS IS OF BULK AT MOST 1048576: true; the input reads as it did. -/
def crcPartsUptoRow : OpenClaim := { program := "ytghbbceephcifaa", sum := "963740aaa1cfdd50f40326aabd5fe0c981fbd0f7ff704f96569552c8f9848e3d", func := "wattle/wattlelaw01.CrcParts", spec := "crcParts", apart := false, narrowed := true }
def CrcPartsUptoSaid : Prop := crcPartsUptoRow.holds Try.pinned (OpenSpec.upto crcPartsSpec)

/-- 'wattlelaw02.GfForms', WHERE WHAT IT READS IS OF BULK AT MOST 1048576: true; the input reads as it did. -/
def gfFormsUptoRow : OpenClaim := { program := "ytghbbceephcifaa", sum := "963740aaa1cfdd50f40326aabd5fe0c981fbd0f7ff704f96569552c8f9848e3d", func := "wattle/wattlelaw02.GfForms", spec := "gfForms", apart := false, narrowed := true }
def GfFormsUptoSaid : Prop := gfFormsUptoRow.holds Try.pinned (OpenSpec.upto gfFormsSpec)

/-- 'wattlelaw02.GfAll', WHERE WHAT IT READS IS OF BULK AT MOST 1048576: true; the input reads as it did. -/
def gfAllUptoRow : OpenClaim := { program := "ytghbbceephcifaa", sum := "963740aaa1cfdd50f40326aabd5fe0c981fbd0f7ff704f96569552c8f9848e3d", func := "wattle/wattlelaw02.GfAll", spec := "gfAll", apart := false, narrowed := true }
def GfAllUptoSaid : Prop := gfAllUptoRow.holds Try.pinned (OpenSpec.upto gfAllSpec)

/-- 'wattlelaw02.GfTells', WHERE WHAT IT READS IS OF BULK AT MOST 1048576: true; the input reads as it did. -/
def gfTellsUptoRow : OpenClaim := { program := "ytghbbceephcifaa", sum := "963740aaa1cfdd50f40326aabd5fe0c981fbd0f7ff704f96569552c8f9848e3d", func := "wattle/wattlelaw02.GfTells", spec := "gfTells", apart := false, narrowed := true }
def GfTellsUptoSaid : Prop := gfTellsUptoRow.holds Try.pinned (OpenSpec.upto gfTellsSpec)

/-- 'wattlelaw02.GfField', WHERE WHAT IT READS IS OF BULK AT MOST 1048576: true; the input reads as it did. -/
def gfFieldUptoRow : OpenClaim := { program := "ytghbbceephcifaa", sum := "963740aaa1cfdd50f40326aabd5fe0c981fbd0f7ff704f96569552c8f9848e3d", func := "wattle/wattlelaw02.GfField", spec := "gfField", apart := false, narrowed := true }
def GfFieldUptoSaid : Prop := gfFieldUptoRow.holds Try.pinned (OpenSpec.upto gfFieldSpec)

/-- 'wattlelaw03.SyndForms', WHERE WHAT IT READS IS OF BULK AT MOST 1048576: true; the input reads as it did. -/
def syndFormsUptoRow : OpenClaim := { program := "ytghbbceephcifaa", sum := "963740aaa1cfdd50f40326aabd5fe0c981fbd0f7ff704f96569552c8f9848e3d", func := "wattle/wattlelaw03.SyndForms", spec := "syndForms", unfollowed := true, recurses := true, apart := false, narrowed := true }
def SyndFormsUptoSaid : Prop := syndFormsUptoRow.holds Try.pinned (OpenSpec.upto syndFormsSpec)

/-- 'wattlelaw03.SyndMemory', WHERE WHAT IT READS IS OF BULK AT MOST 1048576: true; the input reads as it did. -/
def syndMemoryUptoRow : OpenClaim := { program := "ytghbbceephcifaa", sum := "963740aaa1cfdd50f40326aabd5fe0c981fbd0f7ff704f96569552c8f9848e3d", func := "wattle/wattlelaw03.SyndMemory", spec := "syndMemory", unfollowed := true, recurses := true, apart := false, narrowed := true }
def SyndMemoryUptoSaid : Prop := syndMemoryUptoRow.holds Try.pinned (OpenSpec.upto syndMemorySpec)

/-- 'wattlelaw03.SyndTells', WHERE WHAT IT READS IS OF BULK AT MOST 1048576: true; the input reads as it did. -/
def syndTellsUptoRow : OpenClaim := { program := "ytghbbceephcifaa", sum := "963740aaa1cfdd50f40326aabd5fe0c981fbd0f7ff704f96569552c8f9848e3d", func := "wattle/wattlelaw03.SyndTells", spec := "syndTells", unfollowed := true, recurses := true, apart := false, narrowed := true }
def SyndTellsUptoSaid : Prop := syndTellsUptoRow.holds Try.pinned (OpenSpec.upto syndTellsSpec)

/-- 'wattlelaw03.SyndSplit', WHERE WHAT IT READS IS OF BULK AT MOST 1048576: true; the input reads as it did. -/
def syndSplitUptoRow : OpenClaim := { program := "ytghbbceephcifaa", sum := "963740aaa1cfdd50f40326aabd5fe0c981fbd0f7ff704f96569552c8f9848e3d", func := "wattle/wattlelaw03.SyndSplit", spec := "syndSplit", unfollowed := true, recurses := true, apart := false, narrowed := true }
def SyndSplitUptoSaid : Prop := syndSplitUptoRow.holds Try.pinned (OpenSpec.upto syndSplitSpec)

end Rows
end Go.Proofs.Ytghbbceephcifaa
