/-
  No cell of these rows narrows 'for every input' (looked for: loops, veiled, ifaces, maps, wideKeys, modest, calm, conditions, laid).
  DERIVED. THE GIVEN ROWS OF THIS SEAT. 12 by the template 'for every input the law returns true; each argument reads behind the call as it read before'; 0 by the template 'total and deterministic' (their statements: YtemcffihfeaniaaTotals.lean).
  GIVEN WITH THE SEED: the statements are not yours to turn. If you find one false, say at which input.
  Laid BY PROGRAM, IN A SANDBOX (cutbox-rows.mjs): the forced cells as the released guide's own fill.sh prints them over the translation fcd539df9775335c… (all of the seat's roots in one cut). By AI agents, Wed Nov 11 2026. No macro, syntax, notation, axiom, sorry.
-/
import Derived.Test.YtemcffihfeaniaaChecked
import GoSem.Claim
import GoSem.ClaimJoined
import GoSem.ClaimMapViews
import Derived.JoinedTies
import Derived.KernelRfl
namespace Go.Proofs.Ytemcffihfeaniaa
/- THE CELL 'sum', in the pinned program and in every row, IS THE sha256 OF THE DUMP (.gsa) THAT YtemcffihfeaniaaProg.lean LOADS. Nothing in Lean hashes anything: it is a label: what it is worth is what the hold of that sum in a sandbox is worth. -/
noncomputable def Try.pinned : Pinned := { name := "ytemcffihfeaniaa", sum := "fcd539df9775335ca702c4b1a092cd3a5c5febd9411da88424c70cf6e973b481", checked := Try.checked }
namespace Rows
def none {H : Type} : Left H := { results := [], args := [] }

/-- 'abecedarylaw05.StoreGrows': WHATEVER THE INPUT: true; the input reads as it did. -/
def storeGrowsSpec : ChangeSpec := { name := "storeGrows", fn := fun _ => fun
  | [d1, d2, d3, d4] => { results := [.lit (.bool true)], args := [d1, d2, d3, d4] }
  | _ => none }
def storeGrowsRow : OpenClaim := { program := "ytemcffihfeaniaa", sum := "fcd539df9775335ca702c4b1a092cd3a5c5febd9411da88424c70cf6e973b481", func := "abecedary/abecedarylaw05.StoreGrows", spec := "storeGrows", apart := false }
def StoreGrowsSaid : Prop := storeGrowsRow.holds Try.pinned (OpenSpec.ofChange storeGrowsSpec)

/-- ITS FALSE NEIGHBOUR: 'it returns false'. Refute it at one input. -/
def storeGrowsWrong : ChangeSpec := { name := "storeGrows", fn := fun _ => fun
  | [d1, d2, d3, d4] => { results := [.lit (.bool false)], args := [d1, d2, d3, d4] }
  | _ => none }
def StoreGrowsWrongFalsely : Prop := storeGrowsRow.holds Try.pinned (OpenSpec.ofChange storeGrowsWrong)

/-- 'abecedarylaw05.StoreNone': WHATEVER THE INPUT: true; the input reads as it did. -/
def storeNoneSpec : ChangeSpec := { name := "storeNone", fn := fun _ => fun
  | [d1, d2, d3] => { results := [.lit (.bool true)], args := [d1, d2, d3] }
  | _ => none }
def storeNoneRow : OpenClaim := { program := "ytemcffihfeaniaa", sum := "fcd539df9775335ca702c4b1a092cd3a5c5febd9411da88424c70cf6e973b481", func := "abecedary/abecedarylaw05.StoreNone", spec := "storeNone", apart := false }
def StoreNoneSaid : Prop := storeNoneRow.holds Try.pinned (OpenSpec.ofChange storeNoneSpec)

/-- ITS FALSE NEIGHBOUR: 'it returns false'. Refute it at one input. -/
def storeNoneWrong : ChangeSpec := { name := "storeNone", fn := fun _ => fun
  | [d1, d2, d3] => { results := [.lit (.bool false)], args := [d1, d2, d3] }
  | _ => none }
def StoreNoneWrongFalsely : Prop := storeNoneRow.holds Try.pinned (OpenSpec.ofChange storeNoneWrong)

/-- 'abecedarylaw05.StoreBytes': WHATEVER THE INPUT: true; the input reads as it did. -/
def storeBytesSpec : ChangeSpec := { name := "storeBytes", fn := fun _ => fun
  | [d1, d2, d3] => { results := [.lit (.bool true)], args := [d1, d2, d3] }
  | _ => none }
def storeBytesRow : OpenClaim := { program := "ytemcffihfeaniaa", sum := "fcd539df9775335ca702c4b1a092cd3a5c5febd9411da88424c70cf6e973b481", func := "abecedary/abecedarylaw05.StoreBytes", spec := "storeBytes", apart := false }
def StoreBytesSaid : Prop := storeBytesRow.holds Try.pinned (OpenSpec.ofChange storeBytesSpec)

/-- ITS FALSE NEIGHBOUR: 'it returns false'. Refute it at one input. -/
def storeBytesWrong : ChangeSpec := { name := "storeBytes", fn := fun _ => fun
  | [d1, d2, d3] => { results := [.lit (.bool false)], args := [d1, d2, d3] }
  | _ => none }
def StoreBytesWrongFalsely : Prop := storeBytesRow.holds Try.pinned (OpenSpec.ofChange storeBytesWrong)

/-- 'abecedarylaw05.StoreEmpty': WHATEVER THE INPUT: true; the input reads as it did. -/
def storeEmptySpec : ChangeSpec := { name := "storeEmpty", fn := fun _ => fun
  | [d1, d2, d3] => { results := [.lit (.bool true)], args := [d1, d2, d3] }
  | _ => none }
def storeEmptyRow : OpenClaim := { program := "ytemcffihfeaniaa", sum := "fcd539df9775335ca702c4b1a092cd3a5c5febd9411da88424c70cf6e973b481", func := "abecedary/abecedarylaw05.StoreEmpty", spec := "storeEmpty", apart := false }
def StoreEmptySaid : Prop := storeEmptyRow.holds Try.pinned (OpenSpec.ofChange storeEmptySpec)

/-- ITS FALSE NEIGHBOUR: 'it returns false'. Refute it at one input. -/
def storeEmptyWrong : ChangeSpec := { name := "storeEmpty", fn := fun _ => fun
  | [d1, d2, d3] => { results := [.lit (.bool false)], args := [d1, d2, d3] }
  | _ => none }
def StoreEmptyWrongFalsely : Prop := storeEmptyRow.holds Try.pinned (OpenSpec.ofChange storeEmptyWrong)

/-- 'abecedarylaw04.AvlPlaces': WHATEVER THE INPUT: true; the input reads as it did. -/
def avlPlacesSpec : ChangeSpec := { name := "avlPlaces", fn := fun _ => fun
  | [d1, d2] => { results := [.lit (.bool true)], args := [d1, d2] }
  | _ => none }
def avlPlacesRow : OpenClaim := { program := "ytemcffihfeaniaa", sum := "fcd539df9775335ca702c4b1a092cd3a5c5febd9411da88424c70cf6e973b481", func := "abecedary/abecedarylaw04.AvlPlaces", spec := "avlPlaces", unfollowed := true, recurses := true, apart := false }
def AvlPlacesSaid : Prop := avlPlacesRow.holds Try.pinned (OpenSpec.ofChange avlPlacesSpec)

/-- ITS FALSE NEIGHBOUR: 'it returns false'. Refute it at one input. -/
def avlPlacesWrong : ChangeSpec := { name := "avlPlaces", fn := fun _ => fun
  | [d1, d2] => { results := [.lit (.bool false)], args := [d1, d2] }
  | _ => none }
def AvlPlacesWrongFalsely : Prop := avlPlacesRow.holds Try.pinned (OpenSpec.ofChange avlPlacesWrong)

/-- 'abecedarylaw04.AvlBalance': WHATEVER THE INPUT: true; the input reads as it did. -/
def avlBalanceSpec : ChangeSpec := { name := "avlBalance", fn := fun _ => fun
  | [d1, d2, d3] => { results := [.lit (.bool true)], args := [d1, d2, d3] }
  | _ => none }
def avlBalanceRow : OpenClaim := { program := "ytemcffihfeaniaa", sum := "fcd539df9775335ca702c4b1a092cd3a5c5febd9411da88424c70cf6e973b481", func := "abecedary/abecedarylaw04.AvlBalance", spec := "avlBalance", unfollowed := true, recurses := true, apart := false }
def AvlBalanceSaid : Prop := avlBalanceRow.holds Try.pinned (OpenSpec.ofChange avlBalanceSpec)

/-- ITS FALSE NEIGHBOUR: 'it returns false'. Refute it at one input. -/
def avlBalanceWrong : ChangeSpec := { name := "avlBalance", fn := fun _ => fun
  | [d1, d2, d3] => { results := [.lit (.bool false)], args := [d1, d2, d3] }
  | _ => none }
def AvlBalanceWrongFalsely : Prop := avlBalanceRow.holds Try.pinned (OpenSpec.ofChange avlBalanceWrong)

/-- 'abecedarylaw06.BufferFull': WHATEVER THE INPUT: true; the input reads as it did. -/
def bufferFullSpec : ChangeSpec := { name := "bufferFull", fn := fun _ => fun
  | [d1, d2, d3, d4] => { results := [.lit (.bool true)], args := [d1, d2, d3, d4] }
  | _ => none }
def bufferFullRow : OpenClaim := { program := "ytemcffihfeaniaa", sum := "fcd539df9775335ca702c4b1a092cd3a5c5febd9411da88424c70cf6e973b481", func := "abecedary/abecedarylaw06.BufferFull", spec := "bufferFull", inPlace := ["internal/abi.NoEscape"], unfollowed := true, recurses := true, apart := false }
def BufferFullSaid : Prop := bufferFullRow.holds Try.pinned (OpenSpec.ofChange bufferFullSpec)

/-- ITS FALSE NEIGHBOUR: 'it returns false'. Refute it at one input. -/
def bufferFullWrong : ChangeSpec := { name := "bufferFull", fn := fun _ => fun
  | [d1, d2, d3, d4] => { results := [.lit (.bool false)], args := [d1, d2, d3, d4] }
  | _ => none }
def BufferFullWrongFalsely : Prop := bufferFullRow.holds Try.pinned (OpenSpec.ofChange bufferFullWrong)

/-- 'abecedarylaw06.BufferPlaces': WHATEVER THE INPUT: true; the input reads as it did. -/
def bufferPlacesSpec : ChangeSpec := { name := "bufferPlaces", fn := fun _ => fun
  | [d1, d2, d3] => { results := [.lit (.bool true)], args := [d1, d2, d3] }
  | _ => none }
def bufferPlacesRow : OpenClaim := { program := "ytemcffihfeaniaa", sum := "fcd539df9775335ca702c4b1a092cd3a5c5febd9411da88424c70cf6e973b481", func := "abecedary/abecedarylaw06.BufferPlaces", spec := "bufferPlaces", inPlace := ["internal/abi.NoEscape"], unfollowed := true, recurses := true, apart := false }
def BufferPlacesSaid : Prop := bufferPlacesRow.holds Try.pinned (OpenSpec.ofChange bufferPlacesSpec)

/-- ITS FALSE NEIGHBOUR: 'it returns false'. Refute it at one input. -/
def bufferPlacesWrong : ChangeSpec := { name := "bufferPlaces", fn := fun _ => fun
  | [d1, d2, d3] => { results := [.lit (.bool false)], args := [d1, d2, d3] }
  | _ => none }
def BufferPlacesWrongFalsely : Prop := bufferPlacesRow.holds Try.pinned (OpenSpec.ofChange bufferPlacesWrong)

/-- 'abecedarylaw06.BufferPlays': WHATEVER THE INPUT: true; the input reads as it did. -/
def bufferPlaysSpec : ChangeSpec := { name := "bufferPlays", fn := fun _ => fun
  | [d1, d2, d3] => { results := [.lit (.bool true)], args := [d1, d2, d3] }
  | _ => none }
def bufferPlaysRow : OpenClaim := { program := "ytemcffihfeaniaa", sum := "fcd539df9775335ca702c4b1a092cd3a5c5febd9411da88424c70cf6e973b481", func := "abecedary/abecedarylaw06.BufferPlays", spec := "bufferPlays", inPlace := ["internal/abi.NoEscape"], unfollowed := true, recurses := true, apart := false }
def BufferPlaysSaid : Prop := bufferPlaysRow.holds Try.pinned (OpenSpec.ofChange bufferPlaysSpec)

/-- ITS FALSE NEIGHBOUR: 'it returns false'. Refute it at one input. -/
def bufferPlaysWrong : ChangeSpec := { name := "bufferPlays", fn := fun _ => fun
  | [d1, d2, d3] => { results := [.lit (.bool false)], args := [d1, d2, d3] }
  | _ => none }
def BufferPlaysWrongFalsely : Prop := bufferPlaysRow.holds Try.pinned (OpenSpec.ofChange bufferPlaysWrong)

/-- 'abecedarylaw06.BufferNumbers': WHATEVER THE INPUT: true; the input reads as it did. -/
def bufferNumbersSpec : ChangeSpec := { name := "bufferNumbers", fn := fun _ => fun
  | [d1, d2] => { results := [.lit (.bool true)], args := [d1, d2] }
  | _ => none }
def bufferNumbersRow : OpenClaim := { program := "ytemcffihfeaniaa", sum := "fcd539df9775335ca702c4b1a092cd3a5c5febd9411da88424c70cf6e973b481", func := "abecedary/abecedarylaw06.BufferNumbers", spec := "bufferNumbers", inPlace := ["internal/abi.NoEscape"], unfollowed := true, recurses := true, apart := false }
def BufferNumbersSaid : Prop := bufferNumbersRow.holds Try.pinned (OpenSpec.ofChange bufferNumbersSpec)

/-- ITS FALSE NEIGHBOUR: 'it returns false'. Refute it at one input. -/
def bufferNumbersWrong : ChangeSpec := { name := "bufferNumbers", fn := fun _ => fun
  | [d1, d2] => { results := [.lit (.bool false)], args := [d1, d2] }
  | _ => none }
def BufferNumbersWrongFalsely : Prop := bufferNumbersRow.holds Try.pinned (OpenSpec.ofChange bufferNumbersWrong)

/-- 'abecedarylaw07.EditDoes': WHATEVER THE INPUT: true; the input reads as it did. -/
def editDoesSpec : ChangeSpec := { name := "editDoes", fn := fun _ => fun
  | [d1, d2, d3, d4, d5] => { results := [.lit (.bool true)], args := [d1, d2, d3, d4, d5] }
  | _ => none }
def editDoesRow : OpenClaim := { program := "ytemcffihfeaniaa", sum := "fcd539df9775335ca702c4b1a092cd3a5c5febd9411da88424c70cf6e973b481", func := "abecedary/abecedarylaw07.EditDoes", spec := "editDoes", inPlace := ["internal/abi.NoEscape"], unfollowed := true, recurses := true, apart := false }
def EditDoesSaid : Prop := editDoesRow.holds Try.pinned (OpenSpec.ofChange editDoesSpec)

/-- ITS FALSE NEIGHBOUR: 'it returns false'. Refute it at one input. -/
def editDoesWrong : ChangeSpec := { name := "editDoes", fn := fun _ => fun
  | [d1, d2, d3, d4, d5] => { results := [.lit (.bool false)], args := [d1, d2, d3, d4, d5] }
  | _ => none }
def EditDoesWrongFalsely : Prop := editDoesRow.holds Try.pinned (OpenSpec.ofChange editDoesWrong)

/-- 'abecedarylaw07.EditBack': WHATEVER THE INPUT: true; the input reads as it did. -/
def editBackSpec : ChangeSpec := { name := "editBack", fn := fun _ => fun
  | [d1, d2, d3] => { results := [.lit (.bool true)], args := [d1, d2, d3] }
  | _ => none }
def editBackRow : OpenClaim := { program := "ytemcffihfeaniaa", sum := "fcd539df9775335ca702c4b1a092cd3a5c5febd9411da88424c70cf6e973b481", func := "abecedary/abecedarylaw07.EditBack", spec := "editBack", inPlace := ["internal/abi.NoEscape"], unfollowed := true, recurses := true, apart := false }
def EditBackSaid : Prop := editBackRow.holds Try.pinned (OpenSpec.ofChange editBackSpec)

/-- ITS FALSE NEIGHBOUR: 'it returns false'. Refute it at one input. -/
def editBackWrong : ChangeSpec := { name := "editBack", fn := fun _ => fun
  | [d1, d2, d3] => { results := [.lit (.bool false)], args := [d1, d2, d3] }
  | _ => none }
def EditBackWrongFalsely : Prop := editBackRow.holds Try.pinned (OpenSpec.ofChange editBackWrong)

/- THE SECOND FORM. 'bulk': how many values and letters a reading holds, each counted each time it is reached (what is shared counts as often as it is met; a slice's spare places count too). A statement '..UptoSaid' is the law's where the arguments, and the package variables that the reading takes, are together of bulk at most 1048576: NARROWER than '..Said'. Prove '..Said' where nothing that the law and all that it calls make is longer than what came in: it says more and counts as full. Else prove '..UptoSaid'. A law counts once. -/
mutual
def uptoBulk {H : Type} : DataW H → Nat
  | .lit (.string bytes) => bytes.length + 1
  | .lit _ => 1
  | .nil => 1
  | .ptr d => uptoBulk d + 1
  | .slice elems spare => uptoBulkAll elems + uptoBulkAll spare + 1
  | .agg parts => uptoBulkAll parts + 1
  | .iface _ d => uptoBulk d + 1
  | .map entries => uptoBulkEntries entries + 1
  | .held _ => 1
def uptoBulkAll {H : Type} : List (DataW H) → Nat
  | [] => 0
  | d :: r => uptoBulk d + uptoBulkAll r
def uptoBulkEntries {H : Type} : List (Lit × DataW H) → Nat
  | [] => 0
  | x :: r => uptoBulkEntry x + uptoBulkEntries r
def uptoBulkEntry {H : Type} : Lit × DataW H → Nat
  | (.string bytes, d) => bytes.length + uptoBulk d + 1
  | (_, d) => uptoBulk d + 1
 end
def uptoSmall : (H : Type) → List (DataW H) → Bool := fun _ ds => decide (uptoBulkAll ds ≤ 1048576)
def OpenSpec.upto (s : _root_.Go.ChangeSpec) : _root_.Go.OpenSpec := { _root_.Go.OpenSpec.ofChange s with cond := some uptoSmall }

/-- 'abecedarylaw05.StoreGrows', WHERE WHAT IT READS IS OF BULK AT MOST 1048576: true; the input reads as it did. -/
def storeGrowsUptoRow : OpenClaim := { program := "ytemcffihfeaniaa", sum := "fcd539df9775335ca702c4b1a092cd3a5c5febd9411da88424c70cf6e973b481", func := "abecedary/abecedarylaw05.StoreGrows", spec := "storeGrows", apart := false, narrowed := true }
def StoreGrowsUptoSaid : Prop := storeGrowsUptoRow.holds Try.pinned (OpenSpec.upto storeGrowsSpec)

/-- 'abecedarylaw05.StoreNone', WHERE WHAT IT READS IS OF BULK AT MOST 1048576: true; the input reads as it did. -/
def storeNoneUptoRow : OpenClaim := { program := "ytemcffihfeaniaa", sum := "fcd539df9775335ca702c4b1a092cd3a5c5febd9411da88424c70cf6e973b481", func := "abecedary/abecedarylaw05.StoreNone", spec := "storeNone", apart := false, narrowed := true }
def StoreNoneUptoSaid : Prop := storeNoneUptoRow.holds Try.pinned (OpenSpec.upto storeNoneSpec)

/-- 'abecedarylaw05.StoreBytes', WHERE WHAT IT READS IS OF BULK AT MOST 1048576: true; the input reads as it did. -/
def storeBytesUptoRow : OpenClaim := { program := "ytemcffihfeaniaa", sum := "fcd539df9775335ca702c4b1a092cd3a5c5febd9411da88424c70cf6e973b481", func := "abecedary/abecedarylaw05.StoreBytes", spec := "storeBytes", apart := false, narrowed := true }
def StoreBytesUptoSaid : Prop := storeBytesUptoRow.holds Try.pinned (OpenSpec.upto storeBytesSpec)

/-- 'abecedarylaw05.StoreEmpty', WHERE WHAT IT READS IS OF BULK AT MOST 1048576: true; the input reads as it did. -/
def storeEmptyUptoRow : OpenClaim := { program := "ytemcffihfeaniaa", sum := "fcd539df9775335ca702c4b1a092cd3a5c5febd9411da88424c70cf6e973b481", func := "abecedary/abecedarylaw05.StoreEmpty", spec := "storeEmpty", apart := false, narrowed := true }
def StoreEmptyUptoSaid : Prop := storeEmptyUptoRow.holds Try.pinned (OpenSpec.upto storeEmptySpec)

/-- 'abecedarylaw04.AvlPlaces', WHERE WHAT IT READS IS OF BULK AT MOST 1048576: true; the input reads as it did. -/
def avlPlacesUptoRow : OpenClaim := { program := "ytemcffihfeaniaa", sum := "fcd539df9775335ca702c4b1a092cd3a5c5febd9411da88424c70cf6e973b481", func := "abecedary/abecedarylaw04.AvlPlaces", spec := "avlPlaces", unfollowed := true, recurses := true, apart := false, narrowed := true }
def AvlPlacesUptoSaid : Prop := avlPlacesUptoRow.holds Try.pinned (OpenSpec.upto avlPlacesSpec)

/-- 'abecedarylaw04.AvlBalance', WHERE WHAT IT READS IS OF BULK AT MOST 1048576: true; the input reads as it did. -/
def avlBalanceUptoRow : OpenClaim := { program := "ytemcffihfeaniaa", sum := "fcd539df9775335ca702c4b1a092cd3a5c5febd9411da88424c70cf6e973b481", func := "abecedary/abecedarylaw04.AvlBalance", spec := "avlBalance", unfollowed := true, recurses := true, apart := false, narrowed := true }
def AvlBalanceUptoSaid : Prop := avlBalanceUptoRow.holds Try.pinned (OpenSpec.upto avlBalanceSpec)

/-- 'abecedarylaw06.BufferFull', WHERE WHAT IT READS IS OF BULK AT MOST 1048576: true; the input reads as it did. -/
def bufferFullUptoRow : OpenClaim := { program := "ytemcffihfeaniaa", sum := "fcd539df9775335ca702c4b1a092cd3a5c5febd9411da88424c70cf6e973b481", func := "abecedary/abecedarylaw06.BufferFull", spec := "bufferFull", inPlace := ["internal/abi.NoEscape"], unfollowed := true, recurses := true, apart := false, narrowed := true }
def BufferFullUptoSaid : Prop := bufferFullUptoRow.holds Try.pinned (OpenSpec.upto bufferFullSpec)

/-- 'abecedarylaw06.BufferPlaces', WHERE WHAT IT READS IS OF BULK AT MOST 1048576: true; the input reads as it did. -/
def bufferPlacesUptoRow : OpenClaim := { program := "ytemcffihfeaniaa", sum := "fcd539df9775335ca702c4b1a092cd3a5c5febd9411da88424c70cf6e973b481", func := "abecedary/abecedarylaw06.BufferPlaces", spec := "bufferPlaces", inPlace := ["internal/abi.NoEscape"], unfollowed := true, recurses := true, apart := false, narrowed := true }
def BufferPlacesUptoSaid : Prop := bufferPlacesUptoRow.holds Try.pinned (OpenSpec.upto bufferPlacesSpec)

/-- 'abecedarylaw06.BufferPlays', WHERE WHAT IT READS IS OF BULK AT MOST 1048576: true; the input reads as it did. -/
def bufferPlaysUptoRow : OpenClaim := { program := "ytemcffihfeaniaa", sum := "fcd539df9775335ca702c4b1a092cd3a5c5febd9411da88424c70cf6e973b481", func := "abecedary/abecedarylaw06.BufferPlays", spec := "bufferPlays", inPlace := ["internal/abi.NoEscape"], unfollowed := true, recurses := true, apart := false, narrowed := true }
def BufferPlaysUptoSaid : Prop := bufferPlaysUptoRow.holds Try.pinned (OpenSpec.upto bufferPlaysSpec)

/-- 'abecedarylaw06.BufferNumbers', WHERE WHAT IT READS IS OF BULK AT MOST 1048576: true; the input reads as it did. -/
def bufferNumbersUptoRow : OpenClaim := { program := "ytemcffihfeaniaa", sum := "fcd539df9775335ca702c4b1a092cd3a5c5febd9411da88424c70cf6e973b481", func := "abecedary/abecedarylaw06.BufferNumbers", spec := "bufferNumbers", inPlace := ["internal/abi.NoEscape"], unfollowed := true, recurses := true, apart := false, narrowed := true }
def BufferNumbersUptoSaid : Prop := bufferNumbersUptoRow.holds Try.pinned (OpenSpec.upto bufferNumbersSpec)

/-- 'abecedarylaw07.EditDoes', WHERE WHAT IT READS IS OF BULK AT MOST 1048576: true; the input reads as it did. -/
def editDoesUptoRow : OpenClaim := { program := "ytemcffihfeaniaa", sum := "fcd539df9775335ca702c4b1a092cd3a5c5febd9411da88424c70cf6e973b481", func := "abecedary/abecedarylaw07.EditDoes", spec := "editDoes", inPlace := ["internal/abi.NoEscape"], unfollowed := true, recurses := true, apart := false, narrowed := true }
def EditDoesUptoSaid : Prop := editDoesUptoRow.holds Try.pinned (OpenSpec.upto editDoesSpec)

/-- 'abecedarylaw07.EditBack', WHERE WHAT IT READS IS OF BULK AT MOST 1048576: true; the input reads as it did. -/
def editBackUptoRow : OpenClaim := { program := "ytemcffihfeaniaa", sum := "fcd539df9775335ca702c4b1a092cd3a5c5febd9411da88424c70cf6e973b481", func := "abecedary/abecedarylaw07.EditBack", spec := "editBack", inPlace := ["internal/abi.NoEscape"], unfollowed := true, recurses := true, apart := false, narrowed := true }
def EditBackUptoSaid : Prop := editBackUptoRow.holds Try.pinned (OpenSpec.upto editBackSpec)

end Rows
end Go.Proofs.Ytemcffihfeaniaa
