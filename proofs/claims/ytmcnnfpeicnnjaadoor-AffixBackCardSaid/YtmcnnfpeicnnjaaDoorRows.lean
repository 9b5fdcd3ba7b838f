/-
  NARROWER THAN 'FOR EVERY INPUT', by the rows' own cells (each row's printed sentence says how): AffixWrong: laid · AffixMany: laid · CondBack: laid · CondWays: laid · RuleBack: laid · RuleKnown: laid · RuleAffixes: laid · AffixBack: laid.
  DERIVED. THE GIVEN ROWS OF THIS SEAT. 8 by the template 'for every input the law returns true; each argument reads behind the call as it read before'; 0 by the template 'total and deterministic' (their statements: YtmcnnfpeicnnjaaDoorTotals.lean).
  GIVEN WITH THE SEED: the statements are not yours to turn. If you find one false, say at which input.
  Laid BY PROGRAM, IN A SANDBOX (cutbox-rows.mjs): the forced cells as the released guide's own fill.sh prints them over the translation 17db7db7c732ae78… (all of the seat's roots in one cut). By AI agents, Wed Nov 11 2026. No macro, syntax, notation, axiom, sorry.
-/
import Derived.Test.YtmcnnfpeicnnjaaDoorChecked
import GoSem.PinnedTables
import GoSem.Claim
import GoSem.ClaimJoined
import GoSem.ClaimMapViews
import Derived.JoinedTies
import Derived.KernelRfl
namespace Go.Proofs.YtmcnnfpeicnnjaaDoor
/- THE CELL 'sum', in the pinned program and in every row, IS THE sha256 OF THE DUMP (.gsa) THAT YtmcnnfpeicnnjaaDoorProg.lean LOADS. Nothing in Lean hashes anything: it is a label: what it is worth is what the hold of that sum in a sandbox is worth. -/
noncomputable def Tryd.pinned : Pinned := { name := "ytmcnnfpeicnnjaadoor", sum := "17db7db7c732ae78dac911ea9e456720c1a2e2884801e4e9067996e16222e746", checked := Tryd.checked }
namespace Rows
def none {H : Type} : Left H := { results := [], args := [] }

/- WHAT THE LISTED PACKAGE-LEVEL VARIABLES READ AS WHEN THE CALL BEGINS. Each datum BY PROGRAM (the guide's laid-datum.mjs) off the statement by which the dump's own 'gosem.cut.vars' lays the variable. In a bare row this is a premise. The card (YtmcnnfpeicnnjaaDoorCards.lean) ties it to the program's text. -/
def laid_unicode_utf8_acceptRanges {H : Type} : DataW H := .agg [.agg [.lit (.int .u8 128), .lit (.int .u8 191)], .agg [.lit (.int .u8 160), .lit (.int .u8 191)], .agg [.lit (.int .u8 128), .lit (.int .u8 159)], .agg [.lit (.int .u8 144), .lit (.int .u8 191)], .agg [.lit (.int .u8 128), .lit (.int .u8 143)], .agg [.lit (.int .u8 0), .lit (.int .u8 0)], .agg [.lit (.int .u8 0), .lit (.int .u8 0)], .agg [.lit (.int .u8 0), .lit (.int .u8 0)], .agg [.lit (.int .u8 0), .lit (.int .u8 0)], .agg [.lit (.int .u8 0), .lit (.int .u8 0)], .agg [.lit (.int .u8 0), .lit (.int .u8 0)], .agg [.lit (.int .u8 0), .lit (.int .u8 0)], .agg [.lit (.int .u8 0), .lit (.int .u8 0)], .agg [.lit (.int .u8 0), .lit (.int .u8 0)], .agg [.lit (.int .u8 0), .lit (.int .u8 0)], .agg [.lit (.int .u8 0), .lit (.int .u8 0)]]
/-- One of Go's own tables, pinned by name: the form's constant. -/
def laid_unicode_utf8_first : DataW Unit := Go.Pinned.utf8First

/-- 'abecedarylaw11.AffixWrong': WHATEVER THE INPUT: true; the input reads as it did. -/
def affixWrongSpec : ChangeSpec := { name := "affixWrong", fn := fun _ => fun
  | [d1, d2] => { results := [.lit (.bool true)], args := [d1, d2] }
  | _ => none }
def affixWrongRow : OpenClaim := { program := "ytmcnnfpeicnnjaadoor", sum := "17db7db7c732ae78dac911ea9e456720c1a2e2884801e4e9067996e16222e746", func := "abecedary/abecedarylaw11.AffixWrong", spec := "affixWrong", inPlace := ["internal/bytealg.CountString", "internal/bytealg.IndexByteString", "internal/bytealg.IndexString"], unfollowed := true, recurses := true, named := ["unicode/utf8.first", "unicode/utf8.acceptRanges", "internal/bytealg.MaxLen"], apart := false, laid := [("unicode/utf8.acceptRanges", laid_unicode_utf8_acceptRanges), ("unicode/utf8.first", laid_unicode_utf8_first)] }
def AffixWrongSaid : Prop := affixWrongRow.holds Tryd.pinned (OpenSpec.ofChange affixWrongSpec)

/-- ITS FALSE NEIGHBOUR: 'it returns false'. Refute it at one input. -/
def affixWrongWrong : ChangeSpec := { name := "affixWrong", fn := fun _ => fun
  | [d1, d2] => { results := [.lit (.bool false)], args := [d1, d2] }
  | _ => none }
def AffixWrongWrongFalsely : Prop := affixWrongRow.holds Tryd.pinned (OpenSpec.ofChange affixWrongWrong)

/-- 'abecedarylaw11.AffixMany': WHATEVER THE INPUT: true; the input reads as it did. -/
def affixManySpec : ChangeSpec := { name := "affixMany", fn := fun _ => fun
  | [d1, d2] => { results := [.lit (.bool true)], args := [d1, d2] }
  | _ => none }
def affixManyRow : OpenClaim := { program := "ytmcnnfpeicnnjaadoor", sum := "17db7db7c732ae78dac911ea9e456720c1a2e2884801e4e9067996e16222e746", func := "abecedary/abecedarylaw11.AffixMany", spec := "affixMany", inPlace := ["internal/bytealg.CountString", "internal/bytealg.IndexByteString", "internal/bytealg.IndexString"], unfollowed := true, recurses := true, named := ["unicode/utf8.first", "unicode/utf8.acceptRanges", "internal/bytealg.MaxLen"], apart := false, laid := [("unicode/utf8.acceptRanges", laid_unicode_utf8_acceptRanges), ("unicode/utf8.first", laid_unicode_utf8_first)] }
def AffixManySaid : Prop := affixManyRow.holds Tryd.pinned (OpenSpec.ofChange affixManySpec)

/-- ITS FALSE NEIGHBOUR: 'it returns false'. Refute it at one input. -/
def affixManyWrong : ChangeSpec := { name := "affixMany", fn := fun _ => fun
  | [d1, d2] => { results := [.lit (.bool false)], args := [d1, d2] }
  | _ => none }
def AffixManyWrongFalsely : Prop := affixManyRow.holds Tryd.pinned (OpenSpec.ofChange affixManyWrong)

/-- 'abecedarylaw09.CondBack': WHATEVER THE INPUT: true; the input reads as it did. -/
def condBackSpec : ChangeSpec := { name := "condBack", fn := fun _ => fun
  | [d] => { results := [.lit (.bool true)], args := [d] }
  | _ => none }
def condBackRow : OpenClaim := { program := "ytmcnnfpeicnnjaadoor", sum := "17db7db7c732ae78dac911ea9e456720c1a2e2884801e4e9067996e16222e746", func := "abecedary/abecedarylaw09.CondBack", spec := "condBack", inPlace := ["internal/bytealg.IndexByteString", "internal/bytealg.IndexString", "internal/abi.NoEscape"], unfollowed := true, recurses := true, named := ["internal/bytealg.MaxLen", "unicode/utf8.first", "unicode/utf8.acceptRanges"], apart := false, laid := [("unicode/utf8.acceptRanges", laid_unicode_utf8_acceptRanges), ("unicode/utf8.first", laid_unicode_utf8_first)] }
def CondBackSaid : Prop := condBackRow.holds Tryd.pinned (OpenSpec.ofChange condBackSpec)

/-- ITS FALSE NEIGHBOUR: 'it returns false'. Refute it at one input. -/
def condBackWrong : ChangeSpec := { name := "condBack", fn := fun _ => fun
  | [d] => { results := [.lit (.bool false)], args := [d] }
  | _ => none }
def CondBackWrongFalsely : Prop := condBackRow.holds Tryd.pinned (OpenSpec.ofChange condBackWrong)

/-- 'abecedarylaw09.CondWays': WHATEVER THE INPUT: true; the input reads as it did. -/
def condWaysSpec : ChangeSpec := { name := "condWays", fn := fun _ => fun
  | [d1, d2] => { results := [.lit (.bool true)], args := [d1, d2] }
  | _ => none }
def condWaysRow : OpenClaim := { program := "ytmcnnfpeicnnjaadoor", sum := "17db7db7c732ae78dac911ea9e456720c1a2e2884801e4e9067996e16222e746", func := "abecedary/abecedarylaw09.CondWays", spec := "condWays", inPlace := ["internal/bytealg.IndexByteString", "internal/bytealg.IndexString", "internal/abi.NoEscape"], unfollowed := true, recurses := true, named := ["internal/bytealg.MaxLen", "unicode/utf8.first", "unicode/utf8.acceptRanges"], apart := false, laid := [("unicode/utf8.acceptRanges", laid_unicode_utf8_acceptRanges), ("unicode/utf8.first", laid_unicode_utf8_first)] }
def CondWaysSaid : Prop := condWaysRow.holds Tryd.pinned (OpenSpec.ofChange condWaysSpec)

/-- ITS FALSE NEIGHBOUR: 'it returns false'. Refute it at one input. -/
def condWaysWrong : ChangeSpec := { name := "condWays", fn := fun _ => fun
  | [d1, d2] => { results := [.lit (.bool false)], args := [d1, d2] }
  | _ => none }
def CondWaysWrongFalsely : Prop := condWaysRow.holds Tryd.pinned (OpenSpec.ofChange condWaysWrong)

/-- 'abecedarylaw10.RuleBack': WHATEVER THE INPUT: true; the input reads as it did. -/
def ruleBackSpec : ChangeSpec := { name := "ruleBack", fn := fun _ => fun
  | [d] => { results := [.lit (.bool true)], args := [d] }
  | _ => none }
def ruleBackRow : OpenClaim := { program := "ytmcnnfpeicnnjaadoor", sum := "17db7db7c732ae78dac911ea9e456720c1a2e2884801e4e9067996e16222e746", func := "abecedary/abecedarylaw10.RuleBack", spec := "ruleBack", inPlace := ["internal/bytealg.CountString", "internal/bytealg.IndexByteString", "internal/bytealg.IndexString", "internal/abi.NoEscape", "internal/bytealg.MakeNoZero"], unfollowed := true, recurses := true, named := ["unicode/utf8.first", "unicode/utf8.acceptRanges", "internal/bytealg.MaxLen"], apart := false, laid := [("unicode/utf8.acceptRanges", laid_unicode_utf8_acceptRanges), ("unicode/utf8.first", laid_unicode_utf8_first)] }
def RuleBackSaid : Prop := ruleBackRow.holds Tryd.pinned (OpenSpec.ofChange ruleBackSpec)

/-- ITS FALSE NEIGHBOUR: 'it returns false'. Refute it at one input. -/
def ruleBackWrong : ChangeSpec := { name := "ruleBack", fn := fun _ => fun
  | [d] => { results := [.lit (.bool false)], args := [d] }
  | _ => none }
def RuleBackWrongFalsely : Prop := ruleBackRow.holds Tryd.pinned (OpenSpec.ofChange ruleBackWrong)

/-- 'abecedarylaw10.RuleKnown': WHATEVER THE INPUT: true; the input reads as it did. -/
def ruleKnownSpec : ChangeSpec := { name := "ruleKnown", fn := fun _ => fun
  | [d] => { results := [.lit (.bool true)], args := [d] }
  | _ => none }
def ruleKnownRow : OpenClaim := { program := "ytmcnnfpeicnnjaadoor", sum := "17db7db7c732ae78dac911ea9e456720c1a2e2884801e4e9067996e16222e746", func := "abecedary/abecedarylaw10.RuleKnown", spec := "ruleKnown", inPlace := ["internal/bytealg.CountString", "internal/bytealg.IndexByteString", "internal/bytealg.IndexString", "internal/abi.NoEscape", "internal/bytealg.MakeNoZero"], unfollowed := true, recurses := true, named := ["unicode/utf8.first", "unicode/utf8.acceptRanges", "internal/bytealg.MaxLen"], apart := false, laid := [("unicode/utf8.acceptRanges", laid_unicode_utf8_acceptRanges), ("unicode/utf8.first", laid_unicode_utf8_first)] }
def RuleKnownSaid : Prop := ruleKnownRow.holds Tryd.pinned (OpenSpec.ofChange ruleKnownSpec)

/-- ITS FALSE NEIGHBOUR: 'it returns false'. Refute it at one input. -/
def ruleKnownWrong : ChangeSpec := { name := "ruleKnown", fn := fun _ => fun
  | [d] => { results := [.lit (.bool false)], args := [d] }
  | _ => none }
def RuleKnownWrongFalsely : Prop := ruleKnownRow.holds Tryd.pinned (OpenSpec.ofChange ruleKnownWrong)

/-- 'abecedarylaw10.RuleAffixes': WHATEVER THE INPUT: true; the input reads as it did. -/
def ruleAffixesSpec : ChangeSpec := { name := "ruleAffixes", fn := fun _ => fun
  | [d1, d2, d3, d4] => { results := [.lit (.bool true)], args := [d1, d2, d3, d4] }
  | _ => none }
def ruleAffixesRow : OpenClaim := { program := "ytmcnnfpeicnnjaadoor", sum := "17db7db7c732ae78dac911ea9e456720c1a2e2884801e4e9067996e16222e746", func := "abecedary/abecedarylaw10.RuleAffixes", spec := "ruleAffixes", inPlace := ["internal/bytealg.CountString", "internal/bytealg.IndexByteString", "internal/bytealg.IndexString", "internal/abi.NoEscape", "internal/bytealg.MakeNoZero"], unfollowed := true, recurses := true, named := ["unicode/utf8.first", "unicode/utf8.acceptRanges", "internal/bytealg.MaxLen"], apart := false, laid := [("unicode/utf8.acceptRanges", laid_unicode_utf8_acceptRanges), ("unicode/utf8.first", laid_unicode_utf8_first)] }
def RuleAffixesSaid : Prop := ruleAffixesRow.holds Tryd.pinned (OpenSpec.ofChange ruleAffixesSpec)

/-- ITS FALSE NEIGHBOUR: 'it returns false'. Refute it at one input. -/
def ruleAffixesWrong : ChangeSpec := { name := "ruleAffixes", fn := fun _ => fun
  | [d1, d2, d3, d4] => { results := [.lit (.bool false)], args := [d1, d2, d3, d4] }
  | _ => none }
def RuleAffixesWrongFalsely : Prop := ruleAffixesRow.holds Tryd.pinned (OpenSpec.ofChange ruleAffixesWrong)

/-- 'abecedarylaw11.AffixBack': WHATEVER THE INPUT: true; the input reads as it did. -/
def affixBackSpec : ChangeSpec := { name := "affixBack", fn := fun _ => fun
  | [d1, d2] => { results := [.lit (.bool true)], args := [d1, d2] }
  | _ => none }
def affixBackRow : OpenClaim := { program := "ytmcnnfpeicnnjaadoor", sum := "17db7db7c732ae78dac911ea9e456720c1a2e2884801e4e9067996e16222e746", func := "abecedary/abecedarylaw11.AffixBack", spec := "affixBack", inPlace := ["internal/bytealg.CountString", "internal/bytealg.IndexByteString", "internal/bytealg.IndexString", "internal/abi.NoEscape", "internal/bytealg.MakeNoZero"], unfollowed := true, recurses := true, named := ["unicode/utf8.first", "unicode/utf8.acceptRanges", "internal/bytealg.MaxLen"], apart := false, laid := [("unicode/utf8.acceptRanges", laid_unicode_utf8_acceptRanges), ("unicode/utf8.first", laid_unicode_utf8_first)] }
def AffixBackSaid : Prop := affixBackRow.holds Tryd.pinned (OpenSpec.ofChange affixBackSpec)

/-- ITS FALSE NEIGHBOUR: 'it returns false'. Refute it at one input. -/
def affixBackWrong : ChangeSpec := { name := "affixBack", fn := fun _ => fun
  | [d1, d2] => { results := [.lit (.bool false)], args := [d1, d2] }
  | _ => none }
def AffixBackWrongFalsely : Prop := affixBackRow.holds Tryd.pinned (OpenSpec.ofChange affixBackWrong)

/- THE SECOND FORM. 'bulk': how many values and letters a reading holds, each counted each time it is reached (what is shared counts as often as it is met; a slice's spare places count too). A statement '..UptoSaid' is the law's where the arguments, and the package variables that the reading takes, are together of bulk at most 1048576: NARROWER than '..Said'. Prove '..Said' where nothing that the law and all that it calls make is longer than what came in: it says more and counts as full. Else prove '..UptoSaid'. A law counts once. -/
mutual
def uptoBulk {H : Type} : DataW H → Nat
  | .lit (.string bytes) => bytes.length + 1
  | .lit _ => 1
  | .nil => 1
  | .ptr d => uptoBulk d + 1
  | .slice elems spare => uptoBulkAll elems + uptoBulkAll spare + 1
  | .agg parts => uptoBulkAll parts + 1
  | .iface _ d => uptoBulk d + 1
  | .map entries => uptoBulkEntries entries + 1
  | .held _ => 1
def uptoBulkAll {H : Type} : List (DataW H) → Nat
  | [] => 0
  | d :: r => uptoBulk d + uptoBulkAll r
def uptoBulkEntries {H : Type} : List (Lit × DataW H) → Nat
  | [] => 0
  | x :: r => uptoBulkEntry x + uptoBulkEntries r
def uptoBulkEntry {H : Type} : Lit × DataW H → Nat
  | (.string bytes, d) => bytes.length + uptoBulk d + 1
  | (_, d) => uptoBulk d + 1
 end
def uptoSmall : (H : Type) → List (DataW H) → Bool := fun _ ds => decide (uptoBulkAll ds ≤ 1048576)
def OpenSpec.upto (s : _root_.Go.ChangeSpec) : _root_.Go.OpenSpec := { _root_.Go.OpenSpec.ofChange s with cond := some uptoSmall }

/-- 'abecedarylaw11.AffixWrong', WHERE WHAT IT READS IS OF BULK AT MOST 1048576: true; the input reads as it did. -/
def affixWrongUptoRow : OpenClaim := { program := "ytmcnnfpeicnnjaadoor", sum := "17db7db7c732ae78dac911ea9e456720c1a2e2884801e4e9067996e16222e746", func := "abecedary/abecedarylaw11.AffixWrong", spec := "affixWrong", inPlace := ["internal/bytealg.CountString", "internal/bytealg.IndexByteString", "internal/bytealg.IndexString"], unfollowed := true, recurses := true, named := ["unicode/utf8.first", "unicode/utf8.acceptRanges", "internal/bytealg.MaxLen"], apart := false, laid := [("unicode/utf8.acceptRanges", laid_unicode_utf8_acceptRanges), ("unicode/utf8.first", laid_unicode_utf8_first)], narrowed := true }
def AffixWrongUptoSaid : Prop := affixWrongUptoRow.holds Tryd.pinned (OpenSpec.upto affixWrongSpec)

/-- 'abecedarylaw11.AffixMany', WHERE WHAT IT READS IS OF BULK AT MOST 1048576: true; the input reads as it did. -/
def affixManyUptoRow : OpenClaim := { program := "ytmcnnfpeicnnjaadoor", sum := "17db7db7c732ae78dac911ea9e456720c1a2e2884801e4e9067996e16222e746", func := "abecedary/abecedarylaw11.AffixMany", spec := "affixMany", inPlace := ["internal/bytealg.CountString", "internal/bytealg.IndexByteString", "internal/bytealg.IndexString"], unfollowed := true, recurses := true, named := ["unicode/utf8.first", "unicode/utf8.acceptRanges", "internal/bytealg.MaxLen"], apart := false, laid := [("unicode/utf8.acceptRanges", laid_unicode_utf8_acceptRanges), ("unicode/utf8.first", laid_unicode_utf8_first)], narrowed := true }
def AffixManyUptoSaid : Prop := affixManyUptoRow.holds Tryd.pinned (OpenSpec.upto affixManySpec)

/-- 'abecedarylaw09.CondBack', WHERE WHAT IT READS IS OF BULK AT MOST 1048576: true; the input reads as it did. -/
def condBackUptoRow : OpenClaim := { program := "ytmcnnfpeicnnjaadoor", sum := "17db7db7c732ae78dac911ea9e456720c1a2e2884801e4e9067996e16222e746", func := "abecedary/abecedarylaw09.CondBack", spec := "condBack", inPlace := ["internal/bytealg.IndexByteString", "internal/bytealg.IndexString", "internal/abi.NoEscape"], unfollowed := true, recurses := true, named := ["internal/bytealg.MaxLen", "unicode/utf8.first", "unicode/utf8.acceptRanges"], apart := false, laid := [("unicode/utf8.acceptRanges", laid_unicode_utf8_acceptRanges), ("unicode/utf8.first", laid_unicode_utf8_first)], narrowed := true }
def CondBackUptoSaid : Prop := condBackUptoRow.holds Tryd.pinned (OpenSpec.upto condBackSpec)

/-- 'abecedarylaw09.CondWays', WHERE WHAT IT READS IS OF BULK AT MOST 1048576: true; the input reads as it did. -/
def condWaysUptoRow : OpenClaim := { program := "ytmcnnfpeicnnjaadoor", sum := "17db7db7c732ae78dac911ea9e456720c1a2e2884801e4e9067996e16222e746", func := "abecedary/abecedarylaw09.CondWays", spec := "condWays", inPlace := ["internal/bytealg.IndexByteString", "internal/bytealg.IndexString", "internal/abi.NoEscape"], unfollowed := true, recurses := true, named := ["internal/bytealg.MaxLen", "unicode/utf8.first", "unicode/utf8.acceptRanges"], apart := false, laid := [("unicode/utf8.acceptRanges", laid_unicode_utf8_acceptRanges), ("unicode/utf8.first", laid_unicode_utf8_first)], narrowed := true }
def CondWaysUptoSaid : Prop := condWaysUptoRow.holds Tryd.pinned (OpenSpec.upto condWaysSpec)

/-- 'abecedarylaw10.RuleBack', WHERE WHAT IT READS IS OF BULK AT MOST 1048576: true; the input reads as it did. -/
def ruleBackUptoRow : OpenClaim := { program := "ytmcnnfpeicnnjaadoor", sum := "17db7db7c732ae78dac911ea9e456720c1a2e2884801e4e9067996e16222e746", func := "abecedary/abecedarylaw10.RuleBack", spec := "ruleBack", inPlace := ["internal/bytealg.CountString", "internal/bytealg.IndexByteString", "internal/bytealg.IndexString", "internal/abi.NoEscape", "internal/bytealg.MakeNoZero"], unfollowed := true, recurses := true, named := ["unicode/utf8.first", "unicode/utf8.acceptRanges", "internal/bytealg.MaxLen"], apart := false, laid := [("unicode/utf8.acceptRanges", laid_unicode_utf8_acceptRanges), ("unicode/utf8.first", laid_unicode_utf8_first)], narrowed := true }
def RuleBackUptoSaid : Prop := ruleBackUptoRow.holds Tryd.pinned (OpenSpec.upto ruleBackSpec)

/-- 'abecedarylaw10.RuleKnown', WHERE WHAT IT READS IS OF BULK AT MOST 1048576: true; the input reads as it did. -/
def ruleKnownUptoRow : OpenClaim := { program := "ytmcnnfpeicnnjaadoor", sum := "17db7db7c732ae78dac911ea9e456720c1a2e2884801e4e9067996e16222e746", func := "abecedary/abecedarylaw10.RuleKnown", spec := "ruleKnown", inPlace := ["internal/bytealg.CountString", "internal/bytealg.IndexByteString", "internal/bytealg.IndexString", "internal/abi.NoEscape", "internal/bytealg.MakeNoZero"], unfollowed := true, recurses := true, named := ["unicode/utf8.first", "unicode/utf8.acceptRanges", "internal/bytealg.MaxLen"], apart := false, laid := [("unicode/utf8.acceptRanges", laid_unicode_utf8_acceptRanges), ("unicode/utf8.first", laid_unicode_utf8_first)], narrowed := true }
def RuleKnownUptoSaid : Prop := ruleKnownUptoRow.holds Tryd.pinned (OpenSpec.upto ruleKnownSpec)

/-- 'abecedarylaw10.RuleAffixes', WHERE WHAT IT READS IS OF BULK AT MOST 1048576: true; the input reads as it did. -/
def ruleAffixesUptoRow : OpenClaim := { program := "ytmcnnfpeicnnjaadoor", sum := "17db7db7c732ae78dac911ea9e456720c1a2e2884801e4e9067996e16222e746", func := "abecedary/abecedarylaw10.RuleAffixes", spec := "ruleAffixes", inPlace := ["internal/bytealg.CountString", "internal/bytealg.IndexByteString", "internal/bytealg.IndexString", "internal/abi.NoEscape", "internal/bytealg.MakeNoZero"], unfollowed := true, recurses := true, named := ["unicode/utf8.first", "unicode/utf8.acceptRanges", "internal/bytealg.MaxLen"], apart := false, laid := [("unicode/utf8.acceptRanges", laid_unicode_utf8_acceptRanges), ("unicode/utf8.first", laid_unicode_utf8_first)], narrowed := true }
def RuleAffixesUptoSaid : Prop := ruleAffixesUptoRow.holds Tryd.pinned (OpenSpec.upto ruleAffixesSpec)

/-- 'abecedarylaw11.AffixBack', WHERE WHAT IT READS IS OF BULK AT MOST 1048576: true; the input reads as it did. -/
def affixBackUptoRow : OpenClaim := { program := "ytmcnnfpeicnnjaadoor", sum := "17db7db7c732ae78dac911ea9e456720c1a2e2884801e4e9067996e16222e746", func := "abecedary/abecedarylaw11.AffixBack", spec := "affixBack", inPlace := ["internal/bytealg.CountString", "internal/bytealg.IndexByteString", "internal/bytealg.IndexString", "internal/abi.NoEscape", "internal/bytealg.MakeNoZero"], unfollowed := true, recurses := true, named := ["unicode/utf8.first", "unicode/utf8.acceptRanges", "internal/bytealg.MaxLen"], apart := false, laid := [("unicode/utf8.acceptRanges", laid_unicode_utf8_acceptRanges), ("unicode/utf8.first", laid_unicode_utf8_first)], narrowed := true }
def AffixBackUptoSaid : Prop := affixBackUptoRow.holds Tryd.pinned (OpenSpec.upto affixBackSpec)

end Rows
end Go.Proofs.YtmcnnfpeicnnjaaDoor
