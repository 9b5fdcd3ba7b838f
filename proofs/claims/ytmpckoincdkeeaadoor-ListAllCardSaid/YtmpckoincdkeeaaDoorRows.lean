/-
  NARROWER THAN 'FOR EVERY INPUT', by the rows' own cells (each row's printed sentence says how): FoldTwice: laid · FoldShapes: laid · FoldPairs: laid · FoldSides: laid · ListWrong: laid · ListMany: laid · ListLines: laid · ListAll: laid · ListBack: laid.
  DERIVED. THE GIVEN ROWS OF THIS SEAT. 9 by the template 'for every input the law returns true; each argument reads behind the call as it read before'; 0 by the template 'total and deterministic' (their statements: YtmpckoincdkeeaaDoorTotals.lean).
  GIVEN WITH THE SEED: the statements are not yours to turn. If you find one false, say at which input.
  Laid BY PROGRAM, IN A SANDBOX (cutbox-rows.mjs): the forced cells as the released guide's own fill.sh prints them over the translation 4fd4e2797d03932b… (all of the seat's roots in one cut). By AI agents, Wed Nov 11 2026. No macro, syntax, notation, axiom, sorry.
-/
import Derived.Test.YtmpckoincdkeeaaDoorChecked
import GoSem.PinnedTables
import GoSem.Claim
import GoSem.ClaimJoined
import GoSem.ClaimMapViews
import Derived.JoinedTies
import Derived.KernelRfl
namespace Go.Proofs.YtmpckoincdkeeaaDoor
/- THE CELL 'sum', in the pinned program and in every row, IS THE sha256 OF THE DUMP (.gsa) THAT YtmpckoincdkeeaaDoorProg.lean LOADS. Nothing in Lean hashes anything: it is a label: what it is worth is what the hold of that sum in a sandbox is worth. -/
noncomputable def Tryd.pinned : Pinned := { name := "ytmpckoincdkeeaadoor", sum := "4fd4e2797d03932bce20fcb8dc73237a6610e119605858a6c1a380aa9e83c35a", checked := Tryd.checked }
namespace Rows
def none {H : Type} : Left H := { results := [], args := [] }

/- WHAT THE LISTED PACKAGE-LEVEL VARIABLES READ AS WHEN THE CALL BEGINS. Each datum BY PROGRAM (the guide's laid-datum.mjs) off the statement by which the dump's own 'gosem.cut.vars' lays the variable. In a bare row this is a premise. The card (YtmpckoincdkeeaaDoorCards.lean) ties it to the program's text. -/
def laid_unicode_utf8_acceptRanges {H : Type} : DataW H := .agg [.agg [.lit (.int .u8 128), .lit (.int .u8 191)], .agg [.lit (.int .u8 160), .lit (.int .u8 191)], .agg [.lit (.int .u8 128), .lit (.int .u8 159)], .agg [.lit (.int .u8 144), .lit (.int .u8 191)], .agg [.lit (.int .u8 128), .lit (.int .u8 143)], .agg [.lit (.int .u8 0), .lit (.int .u8 0)], .agg [.lit (.int .u8 0), .lit (.int .u8 0)], .agg [.lit (.int .u8 0), .lit (.int .u8 0)], .agg [.lit (.int .u8 0), .lit (.int .u8 0)], .agg [.lit (.int .u8 0), .lit (.int .u8 0)], .agg [.lit (.int .u8 0), .lit (.int .u8 0)], .agg [.lit (.int .u8 0), .lit (.int .u8 0)], .agg [.lit (.int .u8 0), .lit (.int .u8 0)], .agg [.lit (.int .u8 0), .lit (.int .u8 0)], .agg [.lit (.int .u8 0), .lit (.int .u8 0)], .agg [.lit (.int .u8 0), .lit (.int .u8 0)]]
/-- One of Go's own tables, pinned by name: the form's constant. -/
def laid_unicode_utf8_first : DataW Unit := Go.Pinned.utf8First

/-- 'abecedarylaw14.FoldTwice': WHATEVER THE INPUT: true; the input reads as it did. -/
def foldTwiceSpec : ChangeSpec := { name := "foldTwice", fn := fun _ => fun
  | [d1, d2] => { results := [.lit (.bool true)], args := [d1, d2] }
  | _ => none }
def foldTwiceRow : OpenClaim := { program := "ytmpckoincdkeeaadoor", sum := "4fd4e2797d03932bce20fcb8dc73237a6610e119605858a6c1a380aa9e83c35a", func := "abecedary/abecedarylaw14.FoldTwice", spec := "foldTwice", inPlace := ["internal/abi.NoEscape"], unfollowed := true, recurses := true, named := ["unicode/utf8.first", "unicode/utf8.acceptRanges"], apart := false, laid := [("unicode/utf8.acceptRanges", laid_unicode_utf8_acceptRanges), ("unicode/utf8.first", laid_unicode_utf8_first)] }
def FoldTwiceSaid : Prop := foldTwiceRow.holds Tryd.pinned (OpenSpec.ofChange foldTwiceSpec)

/-- ITS FALSE NEIGHBOUR: 'it returns false'. Refute it at one input. -/
def foldTwiceWrong : ChangeSpec := { name := "foldTwice", fn := fun _ => fun
  | [d1, d2] => { results := [.lit (.bool false)], args := [d1, d2] }
  | _ => none }
def FoldTwiceWrongFalsely : Prop := foldTwiceRow.holds Tryd.pinned (OpenSpec.ofChange foldTwiceWrong)

/-- 'abecedarylaw14.FoldShapes': WHATEVER THE INPUT: true; the input reads as it did. -/
def foldShapesSpec : ChangeSpec := { name := "foldShapes", fn := fun _ => fun
  | [d] => { results := [.lit (.bool true)], args := [d] }
  | _ => none }
def foldShapesRow : OpenClaim := { program := "ytmpckoincdkeeaadoor", sum := "4fd4e2797d03932bce20fcb8dc73237a6610e119605858a6c1a380aa9e83c35a", func := "abecedary/abecedarylaw14.FoldShapes", spec := "foldShapes", inPlace := ["internal/abi.NoEscape"], unfollowed := true, recurses := true, named := ["unicode/utf8.first", "unicode/utf8.acceptRanges"], apart := false, laid := [("unicode/utf8.acceptRanges", laid_unicode_utf8_acceptRanges), ("unicode/utf8.first", laid_unicode_utf8_first)] }
def FoldShapesSaid : Prop := foldShapesRow.holds Tryd.pinned (OpenSpec.ofChange foldShapesSpec)

/-- ITS FALSE NEIGHBOUR: 'it returns false'. Refute it at one input. -/
def foldShapesWrong : ChangeSpec := { name := "foldShapes", fn := fun _ => fun
  | [d] => { results := [.lit (.bool false)], args := [d] }
  | _ => none }
def FoldShapesWrongFalsely : Prop := foldShapesRow.holds Tryd.pinned (OpenSpec.ofChange foldShapesWrong)

/-- 'abecedarylaw14.FoldPairs': WHATEVER THE INPUT: true; the input reads as it did. -/
def foldPairsSpec : ChangeSpec := { name := "foldPairs", fn := fun _ => fun
  | [d1, d2, d3] => { results := [.lit (.bool true)], args := [d1, d2, d3] }
  | _ => none }
def foldPairsRow : OpenClaim := { program := "ytmpckoincdkeeaadoor", sum := "4fd4e2797d03932bce20fcb8dc73237a6610e119605858a6c1a380aa9e83c35a", func := "abecedary/abecedarylaw14.FoldPairs", spec := "foldPairs", inPlace := ["internal/abi.NoEscape"], unfollowed := true, recurses := true, named := ["unicode/utf8.first", "unicode/utf8.acceptRanges"], apart := false, laid := [("unicode/utf8.acceptRanges", laid_unicode_utf8_acceptRanges), ("unicode/utf8.first", laid_unicode_utf8_first)] }
def FoldPairsSaid : Prop := foldPairsRow.holds Tryd.pinned (OpenSpec.ofChange foldPairsSpec)

/-- ITS FALSE NEIGHBOUR: 'it returns false'. Refute it at one input. -/
def foldPairsWrong : ChangeSpec := { name := "foldPairs", fn := fun _ => fun
  | [d1, d2, d3] => { results := [.lit (.bool false)], args := [d1, d2, d3] }
  | _ => none }
def FoldPairsWrongFalsely : Prop := foldPairsRow.holds Tryd.pinned (OpenSpec.ofChange foldPairsWrong)

/-- 'abecedarylaw14.FoldSides': WHATEVER THE INPUT: true; the input reads as it did. -/
def foldSidesSpec : ChangeSpec := { name := "foldSides", fn := fun _ => fun
  | [d1, d2, d3] => { results := [.lit (.bool true)], args := [d1, d2, d3] }
  | _ => none }
def foldSidesRow : OpenClaim := { program := "ytmpckoincdkeeaadoor", sum := "4fd4e2797d03932bce20fcb8dc73237a6610e119605858a6c1a380aa9e83c35a", func := "abecedary/abecedarylaw14.FoldSides", spec := "foldSides", inPlace := ["internal/abi.NoEscape"], unfollowed := true, recurses := true, named := ["unicode/utf8.first", "unicode/utf8.acceptRanges"], apart := false, laid := [("unicode/utf8.acceptRanges", laid_unicode_utf8_acceptRanges), ("unicode/utf8.first", laid_unicode_utf8_first)] }
def FoldSidesSaid : Prop := foldSidesRow.holds Tryd.pinned (OpenSpec.ofChange foldSidesSpec)

/-- ITS FALSE NEIGHBOUR: 'it returns false'. Refute it at one input. -/
def foldSidesWrong : ChangeSpec := { name := "foldSides", fn := fun _ => fun
  | [d1, d2, d3] => { results := [.lit (.bool false)], args := [d1, d2, d3] }
  | _ => none }
def FoldSidesWrongFalsely : Prop := foldSidesRow.holds Tryd.pinned (OpenSpec.ofChange foldSidesWrong)

/-- 'abecedarylaw12.ListWrong': WHATEVER THE INPUT: true; the input reads as it did. -/
def listWrongSpec : ChangeSpec := { name := "listWrong", fn := fun _ => fun
  | [d1, d2] => { results := [.lit (.bool true)], args := [d1, d2] }
  | _ => none }
def listWrongRow : OpenClaim := { program := "ytmpckoincdkeeaadoor", sum := "4fd4e2797d03932bce20fcb8dc73237a6610e119605858a6c1a380aa9e83c35a", func := "abecedary/abecedarylaw12.ListWrong", spec := "listWrong", inPlace := ["internal/bytealg.CountString", "internal/bytealg.IndexByteString", "internal/bytealg.IndexString"], unfollowed := true, recurses := true, named := ["unicode/utf8.first", "unicode/utf8.acceptRanges", "internal/bytealg.MaxLen"], apart := false, laid := [("unicode/utf8.acceptRanges", laid_unicode_utf8_acceptRanges), ("unicode/utf8.first", laid_unicode_utf8_first)] }
def ListWrongSaid : Prop := listWrongRow.holds Tryd.pinned (OpenSpec.ofChange listWrongSpec)

/-- ITS FALSE NEIGHBOUR: 'it returns false'. Refute it at one input. -/
def listWrongWrong : ChangeSpec := { name := "listWrong", fn := fun _ => fun
  | [d1, d2] => { results := [.lit (.bool false)], args := [d1, d2] }
  | _ => none }
def ListWrongWrongFalsely : Prop := listWrongRow.holds Tryd.pinned (OpenSpec.ofChange listWrongWrong)

/-- 'abecedarylaw12.ListMany': WHATEVER THE INPUT: true; the input reads as it did. -/
def listManySpec : ChangeSpec := { name := "listMany", fn := fun _ => fun
  | [d1, d2] => { results := [.lit (.bool true)], args := [d1, d2] }
  | _ => none }
def listManyRow : OpenClaim := { program := "ytmpckoincdkeeaadoor", sum := "4fd4e2797d03932bce20fcb8dc73237a6610e119605858a6c1a380aa9e83c35a", func := "abecedary/abecedarylaw12.ListMany", spec := "listMany", inPlace := ["internal/bytealg.CountString", "internal/bytealg.IndexByteString", "internal/bytealg.IndexString"], unfollowed := true, recurses := true, named := ["unicode/utf8.first", "unicode/utf8.acceptRanges", "internal/bytealg.MaxLen"], apart := false, laid := [("unicode/utf8.acceptRanges", laid_unicode_utf8_acceptRanges), ("unicode/utf8.first", laid_unicode_utf8_first)] }
def ListManySaid : Prop := listManyRow.holds Tryd.pinned (OpenSpec.ofChange listManySpec)

/-- ITS FALSE NEIGHBOUR: 'it returns false'. Refute it at one input. -/
def listManyWrong : ChangeSpec := { name := "listMany", fn := fun _ => fun
  | [d1, d2] => { results := [.lit (.bool false)], args := [d1, d2] }
  | _ => none }
def ListManyWrongFalsely : Prop := listManyRow.holds Tryd.pinned (OpenSpec.ofChange listManyWrong)

/-- 'abecedarylaw12.ListLines': WHATEVER THE INPUT: true; the input reads as it did. -/
def listLinesSpec : ChangeSpec := { name := "listLines", fn := fun _ => fun
  | [d1, d2] => { results := [.lit (.bool true)], args := [d1, d2] }
  | _ => none }
def listLinesRow : OpenClaim := { program := "ytmpckoincdkeeaadoor", sum := "4fd4e2797d03932bce20fcb8dc73237a6610e119605858a6c1a380aa9e83c35a", func := "abecedary/abecedarylaw12.ListLines", spec := "listLines", inPlace := ["internal/bytealg.CountString", "internal/bytealg.IndexByteString", "internal/bytealg.IndexString"], unfollowed := true, recurses := true, named := ["unicode/utf8.first", "unicode/utf8.acceptRanges", "internal/bytealg.MaxLen"], apart := false, laid := [("unicode/utf8.acceptRanges", laid_unicode_utf8_acceptRanges), ("unicode/utf8.first", laid_unicode_utf8_first)] }
def ListLinesSaid : Prop := listLinesRow.holds Tryd.pinned (OpenSpec.ofChange listLinesSpec)

/-- ITS FALSE NEIGHBOUR: 'it returns false'. Refute it at one input. -/
def listLinesWrong : ChangeSpec := { name := "listLines", fn := fun _ => fun
  | [d1, d2] => { results := [.lit (.bool false)], args := [d1, d2] }
  | _ => none }
def ListLinesWrongFalsely : Prop := listLinesRow.holds Tryd.pinned (OpenSpec.ofChange listLinesWrong)

/-- 'abecedarylaw12.ListAll': WHATEVER THE INPUT: true; the input reads as it did. -/
def listAllSpec : ChangeSpec := { name := "listAll", fn := fun _ => fun
  | [d1, d2] => { results := [.lit (.bool true)], args := [d1, d2] }
  | _ => none }
def listAllRow : OpenClaim := { program := "ytmpckoincdkeeaadoor", sum := "4fd4e2797d03932bce20fcb8dc73237a6610e119605858a6c1a380aa9e83c35a", func := "abecedary/abecedarylaw12.ListAll", spec := "listAll", inPlace := ["internal/bytealg.CountString", "internal/bytealg.IndexByteString", "internal/bytealg.IndexString", "internal/abi.NoEscape"], unfollowed := true, recurses := true, named := ["unicode/utf8.first", "unicode/utf8.acceptRanges", "internal/bytealg.MaxLen"], apart := false, laid := [("unicode/utf8.acceptRanges", laid_unicode_utf8_acceptRanges), ("unicode/utf8.first", laid_unicode_utf8_first)] }
def ListAllSaid : Prop := listAllRow.holds Tryd.pinned (OpenSpec.ofChange listAllSpec)

/-- ITS FALSE NEIGHBOUR: 'it returns false'. Refute it at one input. -/
def listAllWrong : ChangeSpec := { name := "listAll", fn := fun _ => fun
  | [d1, d2] => { results := [.lit (.bool false)], args := [d1, d2] }
  | _ => none }
def ListAllWrongFalsely : Prop := listAllRow.holds Tryd.pinned (OpenSpec.ofChange listAllWrong)

/-- 'abecedarylaw12.ListBack': WHATEVER THE INPUT: true; the input reads as it did. -/
def listBackSpec : ChangeSpec := { name := "listBack", fn := fun _ => fun
  | [d1, d2] => { results := [.lit (.bool true)], args := [d1, d2] }
  | _ => none }
def listBackRow : OpenClaim := { program := "ytmpckoincdkeeaadoor", sum := "4fd4e2797d03932bce20fcb8dc73237a6610e119605858a6c1a380aa9e83c35a", func := "abecedary/abecedarylaw12.ListBack", spec := "listBack", inPlace := ["internal/bytealg.CountString", "internal/bytealg.IndexByteString", "internal/bytealg.IndexString", "internal/abi.NoEscape"], unfollowed := true, recurses := true, named := ["unicode/utf8.first", "unicode/utf8.acceptRanges", "internal/bytealg.MaxLen"], apart := false, laid := [("unicode/utf8.acceptRanges", laid_unicode_utf8_acceptRanges), ("unicode/utf8.first", laid_unicode_utf8_first)] }
def ListBackSaid : Prop := listBackRow.holds Tryd.pinned (OpenSpec.ofChange listBackSpec)

/-- ITS FALSE NEIGHBOUR: 'it returns false'. Refute it at one input. -/
def listBackWrong : ChangeSpec := { name := "listBack", fn := fun _ => fun
  | [d1, d2] => { results := [.lit (.bool false)], args := [d1, d2] }
  | _ => none }
def ListBackWrongFalsely : Prop := listBackRow.holds Tryd.pinned (OpenSpec.ofChange listBackWrong)

/- THE SECOND FORM. 'bulk': how many values and letters a reading holds, each counted each time it is reached (what is shared counts as often as it is met; a slice's spare places count too). A statement '..UptoSaid' is the law's where the arguments, and the package variables that the reading takes, are together of bulk at most 1048576: NARROWER than '..Said'. Prove '..Said' where nothing that the law and all that it calls make is longer than what came in: it says more and counts as full. Else prove '..UptoSaid'. A law counts once. -/
mutual
def uptoBulk {H : Type} : DataW H → Nat
  | .lit (.string bytes) => bytes.length + 1
  | .lit _ => 1
  | .nil => 1
  | .ptr d => uptoBulk d + 1
  | .slice elems spare => uptoBulkAll elems + uptoBulkAll spare + 1
  | .agg parts => uptoBulkAll parts + 1
  | .iface _ d => uptoBulk d + 1
  | .map entries => uptoBulkEntries entries + 1
  | .held _ => 1
def uptoBulkAll {H : Type} : List (DataW H) → Nat
  | [] => 0
  | d :: r => uptoBulk d + uptoBulkAll r
def uptoBulkEntries {H : Type} : List (Lit × DataW H) → Nat
  | [] => 0
  | x :: r => uptoBulkEntry x + uptoBulkEntries r
def uptoBulkEntry {H : Type} : Lit × DataW H → Nat
  | (.string bytes, d) => bytes.length + uptoBulk d + 1
  | (_, d) => uptoBulk d + 1
 end
def uptoSmall : (H : Type) → List (DataW H) → Bool := fun _ ds => decide (uptoBulkAll ds ≤ 1048576)
def OpenSpec.upto (s : _root_.Go.ChangeSpec) : _root_.Go.OpenSpec := { _root_.Go.OpenSpec.ofChange s with cond := some uptoSmall }

/-- 'abecedarylaw14.FoldTwice', WHERE WHAT IT READS IS OF BULK AT MOST 1048576: true; the input reads as it did. -/
def foldTwiceUptoRow : OpenClaim := { program := "ytmpckoincdkeeaadoor", sum := "4fd4e2797d03932bce20fcb8dc73237a6610e119605858a6c1a380aa9e83c35a", func := "abecedary/abecedarylaw14.FoldTwice", spec := "foldTwice", inPlace := ["internal/abi.NoEscape"], unfollowed := true, recurses := true, named := ["unicode/utf8.first", "unicode/utf8.acceptRanges"], apart := false, laid := [("unicode/utf8.acceptRanges", laid_unicode_utf8_acceptRanges), ("unicode/utf8.first", laid_unicode_utf8_first)], narrowed := true }
def FoldTwiceUptoSaid : Prop := foldTwiceUptoRow.holds Tryd.pinned (OpenSpec.upto foldTwiceSpec)

/-- 'abecedarylaw14.FoldShapes', WHERE WHAT IT READS IS OF BULK AT MOST 1048576: true; the input reads as it did. -/
def foldShapesUptoRow : OpenClaim := { program := "ytmpckoincdkeeaadoor", sum := "4fd4e2797d03932bce20fcb8dc73237a6610e119605858a6c1a380aa9e83c35a", func := "abecedary/abecedarylaw14.FoldShapes", spec := "foldShapes", inPlace := ["internal/abi.NoEscape"], unfollowed := true, recurses := true, named := ["unicode/utf8.first", "unicode/utf8.acceptRanges"], apart := false, laid := [("unicode/utf8.acceptRanges", laid_unicode_utf8_acceptRanges), ("unicode/utf8.first", laid_unicode_utf8_first)], narrowed := true }
def FoldShapesUptoSaid : Prop := foldShapesUptoRow.holds Tryd.pinned (OpenSpec.upto foldShapesSpec)

/-- 'abecedarylaw14.FoldPairs', WHERE WHAT IT READS IS OF BULK AT MOST 1048576: true; the input reads as it did. -/
def foldPairsUptoRow : OpenClaim := { program := "ytmpckoincdkeeaadoor", sum := "4fd4e2797d03932bce20fcb8dc73237a6610e119605858a6c1a380aa9e83c35a", func := "abecedary/abecedarylaw14.FoldPairs", spec := "foldPairs", inPlace := ["internal/abi.NoEscape"], unfollowed := true, recurses := true, named := ["unicode/utf8.first", "unicode/utf8.acceptRanges"], apart := false, laid := [("unicode/utf8.acceptRanges", laid_unicode_utf8_acceptRanges), ("unicode/utf8.first", laid_unicode_utf8_first)], narrowed := true }
def FoldPairsUptoSaid : Prop := foldPairsUptoRow.holds Tryd.pinned (OpenSpec.upto foldPairsSpec)

/-- 'abecedarylaw14.FoldSides', WHERE WHAT IT READS IS OF BULK AT MOST 1048576: true; the input reads as it did. -/
def foldSidesUptoRow : OpenClaim := { program := "ytmpckoincdkeeaadoor", sum := "4fd4e2797d03932bce20fcb8dc73237a6610e119605858a6c1a380aa9e83c35a", func := "abecedary/abecedarylaw14.FoldSides", spec := "foldSides", inPlace := ["internal/abi.NoEscape"], unfollowed := true, recurses := true, named := ["unicode/utf8.first", "unicode/utf8.acceptRanges"], apart := false, laid := [("unicode/utf8.acceptRanges", laid_unicode_utf8_acceptRanges), ("unicode/utf8.first", laid_unicode_utf8_first)], narrowed := true }
def FoldSidesUptoSaid : Prop := foldSidesUptoRow.holds Tryd.pinned (OpenSpec.upto foldSidesSpec)

/-- 'abecedarylaw12.ListWrong', WHERE WHAT IT READS IS OF BULK AT MOST 1048576: true; the input reads as it did. -/
def listWrongUptoRow : OpenClaim := { program := "ytmpckoincdkeeaadoor", sum := "4fd4e2797d03932bce20fcb8dc73237a6610e119605858a6c1a380aa9e83c35a", func := "abecedary/abecedarylaw12.ListWrong", spec := "listWrong", inPlace := ["internal/bytealg.CountString", "internal/bytealg.IndexByteString", "internal/bytealg.IndexString"], unfollowed := true, recurses := true, named := ["unicode/utf8.first", "unicode/utf8.acceptRanges", "internal/bytealg.MaxLen"], apart := false, laid := [("unicode/utf8.acceptRanges", laid_unicode_utf8_acceptRanges), ("unicode/utf8.first", laid_unicode_utf8_first)], narrowed := true }
def ListWrongUptoSaid : Prop := listWrongUptoRow.holds Tryd.pinned (OpenSpec.upto listWrongSpec)

/-- 'abecedarylaw12.ListMany', WHERE WHAT IT READS IS OF BULK AT MOST 1048576: true; the input reads as it did. -/
def listManyUptoRow : OpenClaim := { program := "ytmpckoincdkeeaadoor", sum := "4fd4e2797d03932bce20fcb8dc73237a6610e119605858a6c1a380aa9e83c35a", func := "abecedary/abecedarylaw12.ListMany", spec := "listMany", inPlace := ["internal/bytealg.CountString", "internal/bytealg.IndexByteString", "internal/bytealg.IndexString"], unfollowed := true, recurses := true, named := ["unicode/utf8.first", "unicode/utf8.acceptRanges", "internal/bytealg.MaxLen"], apart := false, laid := [("unicode/utf8.acceptRanges", laid_unicode_utf8_acceptRanges), ("unicode/utf8.first", laid_unicode_utf8_first)], narrowed := true }
def ListManyUptoSaid : Prop := listManyUptoRow.holds Tryd.pinned (OpenSpec.upto listManySpec)

/-- 'abecedarylaw12.ListLines', WHERE WHAT IT READS IS OF BULK AT MOST 1048576: true; the input reads as it did. -/
def listLinesUptoRow : OpenClaim := { program := "ytmpckoincdkeeaadoor", sum := "4fd4e2797d03932bce20fcb8dc73237a6610e119605858a6c1a380aa9e83c35a", func := "abecedary/abecedarylaw12.ListLines", spec := "listLines", inPlace := ["internal/bytealg.CountString", "internal/bytealg.IndexByteString", "internal/bytealg.IndexString"], unfollowed := true, recurses := true, named := ["unicode/utf8.first", "unicode/utf8.acceptRanges", "internal/bytealg.MaxLen"], apart := false, laid := [("unicode/utf8.acceptRanges", laid_unicode_utf8_acceptRanges), ("unicode/utf8.first", laid_unicode_utf8_first)], narrowed := true }
def ListLinesUptoSaid : Prop := listLinesUptoRow.holds Tryd.pinned (OpenSpec.upto listLinesSpec)

/-- 'abecedarylaw12.ListAll', WHERE WHAT IT READS IS OF BULK AT MOST 1048576: true; the input reads as it did. -/
def listAllUptoRow : OpenClaim := { program := "ytmpckoincdkeeaadoor", sum := "4fd4e2797d03932bce20fcb8dc73237a6610e119605858a6c1a380aa9e83c35a", func := "abecedary/abecedarylaw12.ListAll", spec := "listAll", inPlace := ["internal/bytealg.CountString", "internal/bytealg.IndexByteString", "internal/bytealg.IndexString", "internal/abi.NoEscape"], unfollowed := true, recurses := true, named := ["unicode/utf8.first", "unicode/utf8.acceptRanges", "internal/bytealg.MaxLen"], apart := false, laid := [("unicode/utf8.acceptRanges", laid_unicode_utf8_acceptRanges), ("unicode/utf8.first", laid_unicode_utf8_first)], narrowed := true }
def ListAllUptoSaid : Prop := listAllUptoRow.holds Tryd.pinned (OpenSpec.upto listAllSpec)

/-- 'abecedarylaw12.ListBack', WHERE WHAT IT READS IS OF BULK AT MOST 1048576: true; the input reads as it did. -/
def listBackUptoRow : OpenClaim := { program := "ytmpckoincdkeeaadoor", sum := "4fd4e2797d03932bce20fcb8dc73237a6610e119605858a6c1a380aa9e83c35a", func := "abecedary/abecedarylaw12.ListBack", spec := "listBack", inPlace := ["internal/bytealg.CountString", "internal/bytealg.IndexByteString", "internal/bytealg.IndexString", "internal/abi.NoEscape"], unfollowed := true, recurses := true, named := ["unicode/utf8.first", "unicode/utf8.acceptRanges", "internal/bytealg.MaxLen"], apart := false, laid := [("unicode/utf8.acceptRanges", laid_unicode_utf8_acceptRanges), ("unicode/utf8.first", laid_unicode_utf8_first)], narrowed := true }
def ListBackUptoSaid : Prop := listBackUptoRow.holds Tryd.pinned (OpenSpec.upto listBackSpec)

end Rows
end Go.Proofs.YtmpckoincdkeeaaDoor
