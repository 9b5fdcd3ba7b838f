/-
  NARROWER THAN 'FOR EVERY INPUT', by the rows' own cells (each row's printed sentence says how): RunesAll: laid · RunesSide: laid · RunesCodes: laid · RunesWrong: laid · SegNumbers: laid · SegTouch: laid · SegCounts: laid · SegAll: laid · SegJoins: laid.
  DERIVED. THE GIVEN ROWS OF THIS SEAT. 9 by the template 'for every input the law returns true; each argument reads behind the call as it read before'; 0 by the template 'total and deterministic' (their statements: YtcljiahpgbedhaaDoorTotals.lean).
  GIVEN WITH THE SEED: the statements are not yours to turn. If you find one false, say at which input.
  Laid BY PROGRAM, IN A SANDBOX (cutbox-rows.mjs): the forced cells as the released guide's own fill.sh prints them over the translation 92d2e4d9e4df32ad… (all of the seat's roots in one cut). By AI agents, Wed Nov 11 2026. No macro, syntax, notation, axiom, sorry.
-/
import Derived.Test.YtcljiahpgbedhaaDoorChecked
import GoSem.PinnedTables
import GoSem.Claim
import GoSem.ClaimJoined
import GoSem.ClaimMapViews
import Derived.JoinedTies
import Derived.KernelRfl
namespace Go.Proofs.YtcljiahpgbedhaaDoor
/- THE CELL 'sum', in the pinned program and in every row, IS THE sha256 OF THE DUMP (.gsa) THAT YtcljiahpgbedhaaDoorProg.lean LOADS. Nothing in Lean hashes anything: it is a label: what it is worth is what the hold of that sum in a sandbox is worth. -/
noncomputable def Tryd.pinned : Pinned := { name := "ytcljiahpgbedhaadoor", sum := "92d2e4d9e4df32ad086e4cae3a6736d4f768f92c265d458b52fc7a9907cbbf27", checked := Tryd.checked }
namespace Rows
def none {H : Type} : Left H := { results := [], args := [] }

/- WHAT THE LISTED PACKAGE-LEVEL VARIABLES READ AS WHEN THE CALL BEGINS. Each datum BY PROGRAM (the guide's laid-datum.mjs) off the statement by which the dump's own 'gosem.cut.vars' lays the variable. In a bare row this is a premise. The card (YtcljiahpgbedhaaDoorCards.lean) ties it to the program's text. -/
def laid_unicode_utf8_acceptRanges {H : Type} : DataW H := .agg [.agg [.lit (.int .u8 128), .lit (.int .u8 191)], .agg [.lit (.int .u8 160), .lit (.int .u8 191)], .agg [.lit (.int .u8 128), .lit (.int .u8 159)], .agg [.lit (.int .u8 144), .lit (.int .u8 191)], .agg [.lit (.int .u8 128), .lit (.int .u8 143)], .agg [.lit (.int .u8 0), .lit (.int .u8 0)], .agg [.lit (.int .u8 0), .lit (.int .u8 0)], .agg [.lit (.int .u8 0), .lit (.int .u8 0)], .agg [.lit (.int .u8 0), .lit (.int .u8 0)], .agg [.lit (.int .u8 0), .lit (.int .u8 0)], .agg [.lit (.int .u8 0), .lit (.int .u8 0)], .agg [.lit (.int .u8 0), .lit (.int .u8 0)], .agg [.lit (.int .u8 0), .lit (.int .u8 0)], .agg [.lit (.int .u8 0), .lit (.int .u8 0)], .agg [.lit (.int .u8 0), .lit (.int .u8 0)], .agg [.lit (.int .u8 0), .lit (.int .u8 0)]]
/-- One of Go's own tables, pinned by name: the form's constant. -/
def laid_unicode_utf8_first : DataW Unit := Go.Pinned.utf8First

/-- 'abecedarylaw01.RunesAll': WHATEVER THE INPUT: true; the input reads as it did. -/
def runesAllSpec : ChangeSpec := { name := "runesAll", fn := fun _ => fun
  | [d1, d2, d3] => { results := [.lit (.bool true)], args := [d1, d2, d3] }
  | _ => none }
def runesAllRow : OpenClaim := { program := "ytcljiahpgbedhaadoor", sum := "92d2e4d9e4df32ad086e4cae3a6736d4f768f92c265d458b52fc7a9907cbbf27", func := "abecedary/abecedarylaw01.RunesAll", spec := "runesAll", named := ["unicode/utf8.first", "unicode/utf8.acceptRanges"], apart := false, laid := [("unicode/utf8.acceptRanges", laid_unicode_utf8_acceptRanges), ("unicode/utf8.first", laid_unicode_utf8_first)] }
def RunesAllSaid : Prop := runesAllRow.holds Tryd.pinned (OpenSpec.ofChange runesAllSpec)

/-- ITS FALSE NEIGHBOUR: 'it returns false'. Refute it at one input. -/
def runesAllWrong : ChangeSpec := { name := "runesAll", fn := fun _ => fun
  | [d1, d2, d3] => { results := [.lit (.bool false)], args := [d1, d2, d3] }
  | _ => none }
def RunesAllWrongFalsely : Prop := runesAllRow.holds Tryd.pinned (OpenSpec.ofChange runesAllWrong)

/-- 'abecedarylaw01.RunesSide': WHATEVER THE INPUT: true; the input reads as it did. -/
def runesSideSpec : ChangeSpec := { name := "runesSide", fn := fun _ => fun
  | [d1, d2] => { results := [.lit (.bool true)], args := [d1, d2] }
  | _ => none }
def runesSideRow : OpenClaim := { program := "ytcljiahpgbedhaadoor", sum := "92d2e4d9e4df32ad086e4cae3a6736d4f768f92c265d458b52fc7a9907cbbf27", func := "abecedary/abecedarylaw01.RunesSide", spec := "runesSide", named := ["unicode/utf8.first", "unicode/utf8.acceptRanges"], apart := false, laid := [("unicode/utf8.acceptRanges", laid_unicode_utf8_acceptRanges), ("unicode/utf8.first", laid_unicode_utf8_first)] }
def RunesSideSaid : Prop := runesSideRow.holds Tryd.pinned (OpenSpec.ofChange runesSideSpec)

/-- ITS FALSE NEIGHBOUR: 'it returns false'. Refute it at one input. -/
def runesSideWrong : ChangeSpec := { name := "runesSide", fn := fun _ => fun
  | [d1, d2] => { results := [.lit (.bool false)], args := [d1, d2] }
  | _ => none }
def RunesSideWrongFalsely : Prop := runesSideRow.holds Tryd.pinned (OpenSpec.ofChange runesSideWrong)

/-- 'abecedarylaw01.RunesCodes': WHATEVER THE INPUT: true; the input reads as it did. -/
def runesCodesSpec : ChangeSpec := { name := "runesCodes", fn := fun _ => fun
  | [d1, d2] => { results := [.lit (.bool true)], args := [d1, d2] }
  | _ => none }
def runesCodesRow : OpenClaim := { program := "ytcljiahpgbedhaadoor", sum := "92d2e4d9e4df32ad086e4cae3a6736d4f768f92c265d458b52fc7a9907cbbf27", func := "abecedary/abecedarylaw01.RunesCodes", spec := "runesCodes", named := ["unicode/utf8.first", "unicode/utf8.acceptRanges"], apart := false, laid := [("unicode/utf8.acceptRanges", laid_unicode_utf8_acceptRanges), ("unicode/utf8.first", laid_unicode_utf8_first)] }
def RunesCodesSaid : Prop := runesCodesRow.holds Tryd.pinned (OpenSpec.ofChange runesCodesSpec)

/-- ITS FALSE NEIGHBOUR: 'it returns false'. Refute it at one input. -/
def runesCodesWrong : ChangeSpec := { name := "runesCodes", fn := fun _ => fun
  | [d1, d2] => { results := [.lit (.bool false)], args := [d1, d2] }
  | _ => none }
def RunesCodesWrongFalsely : Prop := runesCodesRow.holds Tryd.pinned (OpenSpec.ofChange runesCodesWrong)

/-- 'abecedarylaw01.RunesWrong': WHATEVER THE INPUT: true; the input reads as it did. -/
def runesWrongSpec : ChangeSpec := { name := "runesWrong", fn := fun _ => fun
  | [d1, d2] => { results := [.lit (.bool true)], args := [d1, d2] }
  | _ => none }
def runesWrongRow : OpenClaim := { program := "ytcljiahpgbedhaadoor", sum := "92d2e4d9e4df32ad086e4cae3a6736d4f768f92c265d458b52fc7a9907cbbf27", func := "abecedary/abecedarylaw01.RunesWrong", spec := "runesWrong", named := ["unicode/utf8.first", "unicode/utf8.acceptRanges"], apart := false, laid := [("unicode/utf8.acceptRanges", laid_unicode_utf8_acceptRanges), ("unicode/utf8.first", laid_unicode_utf8_first)] }
def RunesWrongSaid : Prop := runesWrongRow.holds Tryd.pinned (OpenSpec.ofChange runesWrongSpec)

/-- ITS FALSE NEIGHBOUR: 'it returns false'. Refute it at one input. -/
def runesWrongWrong : ChangeSpec := { name := "runesWrong", fn := fun _ => fun
  | [d1, d2] => { results := [.lit (.bool false)], args := [d1, d2] }
  | _ => none }
def RunesWrongWrongFalsely : Prop := runesWrongRow.holds Tryd.pinned (OpenSpec.ofChange runesWrongWrong)

/-- 'abecedarylaw03.SegNumbers': WHATEVER THE INPUT: true; the input reads as it did. -/
def segNumbersSpec : ChangeSpec := { name := "segNumbers", fn := fun _ => fun
  | [d] => { results := [.lit (.bool true)], args := [d] }
  | _ => none }
def segNumbersRow : OpenClaim := { program := "ytcljiahpgbedhaadoor", sum := "92d2e4d9e4df32ad086e4cae3a6736d4f768f92c265d458b52fc7a9907cbbf27", func := "abecedary/abecedarylaw03.SegNumbers", spec := "segNumbers", unfollowed := true, recurses := true, named := ["unicode/utf8.first", "unicode/utf8.acceptRanges"], apart := false, laid := [("unicode/utf8.acceptRanges", laid_unicode_utf8_acceptRanges), ("unicode/utf8.first", laid_unicode_utf8_first)] }
def SegNumbersSaid : Prop := segNumbersRow.holds Tryd.pinned (OpenSpec.ofChange segNumbersSpec)

/-- ITS FALSE NEIGHBOUR: 'it returns false'. Refute it at one input. -/
def segNumbersWrong : ChangeSpec := { name := "segNumbers", fn := fun _ => fun
  | [d] => { results := [.lit (.bool false)], args := [d] }
  | _ => none }
def SegNumbersWrongFalsely : Prop := segNumbersRow.holds Tryd.pinned (OpenSpec.ofChange segNumbersWrong)

/-- 'abecedarylaw03.SegTouch': WHATEVER THE INPUT: true; the input reads as it did. -/
def segTouchSpec : ChangeSpec := { name := "segTouch", fn := fun _ => fun
  | [d] => { results := [.lit (.bool true)], args := [d] }
  | _ => none }
def segTouchRow : OpenClaim := { program := "ytcljiahpgbedhaadoor", sum := "92d2e4d9e4df32ad086e4cae3a6736d4f768f92c265d458b52fc7a9907cbbf27", func := "abecedary/abecedarylaw03.SegTouch", spec := "segTouch", unfollowed := true, recurses := true, named := ["unicode/utf8.first", "unicode/utf8.acceptRanges"], apart := false, laid := [("unicode/utf8.acceptRanges", laid_unicode_utf8_acceptRanges), ("unicode/utf8.first", laid_unicode_utf8_first)] }
def SegTouchSaid : Prop := segTouchRow.holds Tryd.pinned (OpenSpec.ofChange segTouchSpec)

/-- ITS FALSE NEIGHBOUR: 'it returns false'. Refute it at one input. -/
def segTouchWrong : ChangeSpec := { name := "segTouch", fn := fun _ => fun
  | [d] => { results := [.lit (.bool false)], args := [d] }
  | _ => none }
def SegTouchWrongFalsely : Prop := segTouchRow.holds Tryd.pinned (OpenSpec.ofChange segTouchWrong)

/-- 'abecedarylaw03.SegCounts': WHATEVER THE INPUT: true; the input reads as it did. -/
def segCountsSpec : ChangeSpec := { name := "segCounts", fn := fun _ => fun
  | [d1, d2] => { results := [.lit (.bool true)], args := [d1, d2] }
  | _ => none }
def segCountsRow : OpenClaim := { program := "ytcljiahpgbedhaadoor", sum := "92d2e4d9e4df32ad086e4cae3a6736d4f768f92c265d458b52fc7a9907cbbf27", func := "abecedary/abecedarylaw03.SegCounts", spec := "segCounts", unfollowed := true, recurses := true, named := ["unicode/utf8.first", "unicode/utf8.acceptRanges"], apart := false, laid := [("unicode/utf8.acceptRanges", laid_unicode_utf8_acceptRanges), ("unicode/utf8.first", laid_unicode_utf8_first)] }
def SegCountsSaid : Prop := segCountsRow.holds Tryd.pinned (OpenSpec.ofChange segCountsSpec)

/-- ITS FALSE NEIGHBOUR: 'it returns false'. Refute it at one input. -/
def segCountsWrong : ChangeSpec := { name := "segCounts", fn := fun _ => fun
  | [d1, d2] => { results := [.lit (.bool false)], args := [d1, d2] }
  | _ => none }
def SegCountsWrongFalsely : Prop := segCountsRow.holds Tryd.pinned (OpenSpec.ofChange segCountsWrong)

/-- 'abecedarylaw03.SegAll': WHATEVER THE INPUT: true; the input reads as it did. -/
def segAllSpec : ChangeSpec := { name := "segAll", fn := fun _ => fun
  | [d1, d2] => { results := [.lit (.bool true)], args := [d1, d2] }
  | _ => none }
def segAllRow : OpenClaim := { program := "ytcljiahpgbedhaadoor", sum := "92d2e4d9e4df32ad086e4cae3a6736d4f768f92c265d458b52fc7a9907cbbf27", func := "abecedary/abecedarylaw03.SegAll", spec := "segAll", unfollowed := true, recurses := true, named := ["unicode/utf8.first", "unicode/utf8.acceptRanges"], apart := false, laid := [("unicode/utf8.acceptRanges", laid_unicode_utf8_acceptRanges), ("unicode/utf8.first", laid_unicode_utf8_first)] }
def SegAllSaid : Prop := segAllRow.holds Tryd.pinned (OpenSpec.ofChange segAllSpec)

/-- ITS FALSE NEIGHBOUR: 'it returns false'. Refute it at one input. -/
def segAllWrong : ChangeSpec := { name := "segAll", fn := fun _ => fun
  | [d1, d2] => { results := [.lit (.bool false)], args := [d1, d2] }
  | _ => none }
def SegAllWrongFalsely : Prop := segAllRow.holds Tryd.pinned (OpenSpec.ofChange segAllWrong)

/-- 'abecedarylaw03.SegJoins': WHATEVER THE INPUT: true; the input reads as it did. -/
def segJoinsSpec : ChangeSpec := { name := "segJoins", fn := fun _ => fun
  | [d1, d2, d3, d4] => { results := [.lit (.bool true)], args := [d1, d2, d3, d4] }
  | _ => none }
def segJoinsRow : OpenClaim := { program := "ytcljiahpgbedhaadoor", sum := "92d2e4d9e4df32ad086e4cae3a6736d4f768f92c265d458b52fc7a9907cbbf27", func := "abecedary/abecedarylaw03.SegJoins", spec := "segJoins", unfollowed := true, recurses := true, named := ["unicode/utf8.first", "unicode/utf8.acceptRanges"], apart := false, laid := [("unicode/utf8.acceptRanges", laid_unicode_utf8_acceptRanges), ("unicode/utf8.first", laid_unicode_utf8_first)] }
def SegJoinsSaid : Prop := segJoinsRow.holds Tryd.pinned (OpenSpec.ofChange segJoinsSpec)

/-- ITS FALSE NEIGHBOUR: 'it returns false'. Refute it at one input. -/
def segJoinsWrong : ChangeSpec := { name := "segJoins", fn := fun _ => fun
  | [d1, d2, d3, d4] => { results := [.lit (.bool false)], args := [d1, d2, d3, d4] }
  | _ => none }
def SegJoinsWrongFalsely : Prop := segJoinsRow.holds Tryd.pinned (OpenSpec.ofChange segJoinsWrong)

/- THE SECOND FORM. 'bulk': how many values and letters a reading holds, each counted each time it is reached (what is shared counts as often as it is met; a slice's spare places count too). A statement '..UptoSaid' is the law's where the arguments, and the package variables that the reading takes, are together of bulk at most 1048576: NARROWER than '..Said'. Prove '..Said' where nothing that the law and all that it calls make is longer than what came in: it says more and counts as full. Else prove '..UptoSaid'. A law counts once. -/
mutual
def uptoBulk {H : Type} : DataW H → Nat
  | .lit (.string bytes) => bytes.length + 1
  | .lit _ => 1
  | .nil => 1
  | .ptr d => uptoBulk d + 1
  | .slice elems spare => uptoBulkAll elems + uptoBulkAll spare + 1
  | .agg parts => uptoBulkAll parts + 1
  | .iface _ d => uptoBulk d + 1
  | .map entries => uptoBulkEntries entries + 1
  | .held _ => 1
def uptoBulkAll {H : Type} : List (DataW H) → Nat
  | [] => 0
  | d :: r => uptoBulk d + uptoBulkAll r
def uptoBulkEntries {H : Type} : List (Lit × DataW H) → Nat
  | [] => 0
  | x :: r => uptoBulkEntry x + uptoBulkEntries r
def uptoBulkEntry {H : Type} : Lit × DataW H → Nat
  | (.string bytes, d) => bytes.length + uptoBulk d + 1
  | (_, d) => uptoBulk d + 1
 end
def uptoSmall : (H : Type) → List (DataW H) → Bool := fun _ ds => decide (uptoBulkAll ds ≤ 1048576)
def OpenSpec.upto (s : _root_.Go.ChangeSpec) : _root_.Go.OpenSpec := { _root_.Go.OpenSpec.ofChange s with cond := some uptoSmall }

/-- 'abecedarylaw01.RunesAll', WHERE WHAT IT READS IS OF BULK AT MOST 1048576: true; the input reads as it did. -/
def runesAllUptoRow : OpenClaim := { program := "ytcljiahpgbedhaadoor", sum := "92d2e4d9e4df32ad086e4cae3a6736d4f768f92c265d458b52fc7a9907cbbf27", func := "abecedary/abecedarylaw01.RunesAll", spec := "runesAll", named := ["unicode/utf8.first", "unicode/utf8.acceptRanges"], apart := false, laid := [("unicode/utf8.acceptRanges", laid_unicode_utf8_acceptRanges), ("unicode/utf8.first", laid_unicode_utf8_first)], narrowed := true }
def RunesAllUptoSaid : Prop := runesAllUptoRow.holds Tryd.pinned (OpenSpec.upto runesAllSpec)

/-- 'abecedarylaw01.RunesSide', WHERE WHAT IT READS IS OF BULK AT MOST 1048576: true; the input reads as it did. -/
def runesSideUptoRow : OpenClaim := { program := "ytcljiahpgbedhaadoor", sum := "92d2e4d9e4df32ad086e4cae3a6736d4f768f92c265d458b52fc7a9907cbbf27", func := "abecedary/abecedarylaw01.RunesSide", spec := "runesSide", named := ["unicode/utf8.first", "unicode/utf8.acceptRanges"], apart := false, laid := [("unicode/utf8.acceptRanges", laid_unicode_utf8_acceptRanges), ("unicode/utf8.first", laid_unicode_utf8_first)], narrowed := true }
def RunesSideUptoSaid : Prop := runesSideUptoRow.holds Tryd.pinned (OpenSpec.upto runesSideSpec)

/-- 'abecedarylaw01.RunesCodes', WHERE WHAT IT READS IS OF BULK AT MOST 1048576: true; the input reads as it did. -/
def runesCodesUptoRow : OpenClaim := { program := "ytcljiahpgbedhaadoor", sum := "92d2e4d9e4df32ad086e4cae3a6736d4f768f92c265d458b52fc7a9907cbbf27", func := "abecedary/abecedarylaw01.RunesCodes", spec := "runesCodes", named := ["unicode/utf8.first", "unicode/utf8.acceptRanges"], apart := false, laid := [("unicode/utf8.acceptRanges", laid_unicode_utf8_acceptRanges), ("unicode/utf8.first", laid_unicode_utf8_first)], narrowed := true }
def RunesCodesUptoSaid : Prop := runesCodesUptoRow.holds Tryd.pinned (OpenSpec.upto runesCodesSpec)

/-- 'abecedarylaw01.RunesWrong', WHERE WHAT IT READS IS OF BULK AT MOST 1048576: true; the input reads as it did. -/
def runesWrongUptoRow : OpenClaim := { program := "ytcljiahpgbedhaadoor", sum := "92d2e4d9e4df32ad086e4cae3a6736d4f768f92c265d458b52fc7a9907cbbf27", func := "abecedary/abecedarylaw01.RunesWrong", spec := "runesWrong", named := ["unicode/utf8.first", "unicode/utf8.acceptRanges"], apart := false, laid := [("unicode/utf8.acceptRanges", laid_unicode_utf8_acceptRanges), ("unicode/utf8.first", laid_unicode_utf8_first)], narrowed := true }
def RunesWrongUptoSaid : Prop := runesWrongUptoRow.holds Tryd.pinned (OpenSpec.upto runesWrongSpec)

/-- 'abecedarylaw03.SegNumbers', WHERE WHAT IT READS IS OF BULK AT MOST 1048576: true; the input reads as it did. -/
def segNumbersUptoRow : OpenClaim := { program := "ytcljiahpgbedhaadoor", sum := "92d2e4d9e4df32ad086e4cae3a6736d4f768f92c265d458b52fc7a9907cbbf27", func := "abecedary/abecedarylaw03.SegNumbers", spec := "segNumbers", unfollowed := true, recurses := true, named := ["unicode/utf8.first", "unicode/utf8.acceptRanges"], apart := false, laid := [("unicode/utf8.acceptRanges", laid_unicode_utf8_acceptRanges), ("unicode/utf8.first", laid_unicode_utf8_first)], narrowed := true }
def SegNumbersUptoSaid : Prop := segNumbersUptoRow.holds Tryd.pinned (OpenSpec.upto segNumbersSpec)

/-- 'abecedarylaw03.SegTouch', WHERE WHAT IT READS IS OF BULK AT MOST 1048576: true; the input reads as it did. -/
def segTouchUptoRow : OpenClaim := { program := "ytcljiahpgbedhaadoor", sum := "92d2e4d9e4df32ad086e4cae3a6736d4f768f92c265d458b52fc7a9907cbbf27", func := "abecedary/abecedarylaw03.SegTouch", spec := "segTouch", unfollowed := true, recurses := true, named := ["unicode/utf8.first", "unicode/utf8.acceptRanges"], apart := false, laid := [("unicode/utf8.acceptRanges", laid_unicode_utf8_acceptRanges), ("unicode/utf8.first", laid_unicode_utf8_first)], narrowed := true }
def SegTouchUptoSaid : Prop := segTouchUptoRow.holds Tryd.pinned (OpenSpec.upto segTouchSpec)

/-- 'abecedarylaw03.SegCounts', WHERE WHAT IT READS IS OF BULK AT MOST 1048576: true; the input reads as it did. -/
def segCountsUptoRow : OpenClaim := { program := "ytcljiahpgbedhaadoor", sum := "92d2e4d9e4df32ad086e4cae3a6736d4f768f92c265d458b52fc7a9907cbbf27", func := "abecedary/abecedarylaw03.SegCounts", spec := "segCounts", unfollowed := true, recurses := true, named := ["unicode/utf8.first", "unicode/utf8.acceptRanges"], apart := false, laid := [("unicode/utf8.acceptRanges", laid_unicode_utf8_acceptRanges), ("unicode/utf8.first", laid_unicode_utf8_first)], narrowed := true }
def SegCountsUptoSaid : Prop := segCountsUptoRow.holds Tryd.pinned (OpenSpec.upto segCountsSpec)

/-- 'abecedarylaw03.SegAll', WHERE WHAT IT READS IS OF BULK AT MOST 1048576: true; the input reads as it did. -/
def segAllUptoRow : OpenClaim := { program := "ytcljiahpgbedhaadoor", sum := "92d2e4d9e4df32ad086e4cae3a6736d4f768f92c265d458b52fc7a9907cbbf27", func := "abecedary/abecedarylaw03.SegAll", spec := "segAll", unfollowed := true, recurses := true, named := ["unicode/utf8.first", "unicode/utf8.acceptRanges"], apart := false, laid := [("unicode/utf8.acceptRanges", laid_unicode_utf8_acceptRanges), ("unicode/utf8.first", laid_unicode_utf8_first)], narrowed := true }
def SegAllUptoSaid : Prop := segAllUptoRow.holds Tryd.pinned (OpenSpec.upto segAllSpec)

/-- 'abecedarylaw03.SegJoins', WHERE WHAT IT READS IS OF BULK AT MOST 1048576: true; the input reads as it did. -/
def segJoinsUptoRow : OpenClaim := { program := "ytcljiahpgbedhaadoor", sum := "92d2e4d9e4df32ad086e4cae3a6736d4f768f92c265d458b52fc7a9907cbbf27", func := "abecedary/abecedarylaw03.SegJoins", spec := "segJoins", unfollowed := true, recurses := true, named := ["unicode/utf8.first", "unicode/utf8.acceptRanges"], apart := false, laid := [("unicode/utf8.acceptRanges", laid_unicode_utf8_acceptRanges), ("unicode/utf8.first", laid_unicode_utf8_first)], narrowed := true }
def SegJoinsUptoSaid : Prop := segJoinsUptoRow.holds Tryd.pinned (OpenSpec.upto segJoinsSpec)

end Rows
end Go.Proofs.YtcljiahpgbedhaaDoor
