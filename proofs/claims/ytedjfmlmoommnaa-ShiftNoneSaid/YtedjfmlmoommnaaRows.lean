/-
  No cell of these rows narrows 'for every input' (looked for: loops, veiled, ifaces, maps, wideKeys, modest, calm, conditions, laid).
  DERIVED. THE GIVEN ROWS OF THIS SEAT. 10 by the template 'for every input the law returns true; each argument reads behind the call as it read before'; 0 by the template 'total and deterministic' (their statements: YtedjfmlmoommnaaTotals.lean).
  GIVEN WITH THE SEED: the statements are not yours to turn. If you find one false, say at which input.
  Laid BY PROGRAM, IN A SANDBOX (cutbox-rows.mjs): the forced cells as the released guide's own fill.sh prints them over the translation e04385082cdad03b… (all of the seat's roots in one cut). By AI agents, Wed Nov 11 2026. No macro, syntax, notation, axiom, sorry.
-/
import Derived.Test.YtedjfmlmoommnaaChecked
import GoSem.Claim
import GoSem.ClaimJoined
import GoSem.ClaimMapViews
import Derived.JoinedTies
import Derived.KernelRfl
namespace Go.Proofs.Ytedjfmlmoommnaa
/- THE CELL 'sum', in the pinned program and in every row, IS THE sha256 OF THE DUMP (.gsa) THAT YtedjfmlmoommnaaProg.lean LOADS. Nothing in Lean hashes anything: it is a label: what it is worth is what the hold of that sum in a sandbox is worth. -/
noncomputable def Try.pinned : Pinned := { name := "ytedjfmlmoommnaa", sum := "e04385082cdad03b48befb4f7d2b3ae2eb663f1086ceced3df6439e845f9fd51", checked := Try.checked }
namespace Rows
def none {H : Type} : Left H := { results := [], args := [] }

/-- 'abecedarylaw07.EditApplies': WHATEVER THE INPUT: true; the input reads as it did. -/
def editAppliesSpec : ChangeSpec := { name := "editApplies", fn := fun _ => fun
  | [d1, d2] => { results := [.lit (.bool true)], args := [d1, d2] }
  | _ => none }
def editAppliesRow : OpenClaim := { program := "ytedjfmlmoommnaa", sum := "e04385082cdad03b48befb4f7d2b3ae2eb663f1086ceced3df6439e845f9fd51", func := "abecedary/abecedarylaw07.EditApplies", spec := "editApplies", apart := false }
def EditAppliesSaid : Prop := editAppliesRow.holds Try.pinned (OpenSpec.ofChange editAppliesSpec)

/-- ITS FALSE NEIGHBOUR: 'it returns false'. Refute it at one input. -/
def editAppliesWrong : ChangeSpec := { name := "editApplies", fn := fun _ => fun
  | [d1, d2] => { results := [.lit (.bool false)], args := [d1, d2] }
  | _ => none }
def EditAppliesWrongFalsely : Prop := editAppliesRow.holds Try.pinned (OpenSpec.ofChange editAppliesWrong)

/-- 'abecedarylaw07.EditKnown': WHATEVER THE INPUT: true; the input reads as it did. -/
def editKnownSpec : ChangeSpec := { name := "editKnown", fn := fun _ => fun
  | [d1, d2, d3, d4, d5] => { results := [.lit (.bool true)], args := [d1, d2, d3, d4, d5] }
  | _ => none }
def editKnownRow : OpenClaim := { program := "ytedjfmlmoommnaa", sum := "e04385082cdad03b48befb4f7d2b3ae2eb663f1086ceced3df6439e845f9fd51", func := "abecedary/abecedarylaw07.EditKnown", spec := "editKnown", apart := false }
def EditKnownSaid : Prop := editKnownRow.holds Try.pinned (OpenSpec.ofChange editKnownSpec)

/-- ITS FALSE NEIGHBOUR: 'it returns false'. Refute it at one input. -/
def editKnownWrong : ChangeSpec := { name := "editKnown", fn := fun _ => fun
  | [d1, d2, d3, d4, d5] => { results := [.lit (.bool false)], args := [d1, d2, d3, d4, d5] }
  | _ => none }
def EditKnownWrongFalsely : Prop := editKnownRow.holds Try.pinned (OpenSpec.ofChange editKnownWrong)

/-- 'abecedarylaw20.ShiftOrder': WHATEVER THE INPUT: true; the input reads as it did. -/
def shiftOrderSpec : ChangeSpec := { name := "shiftOrder", fn := fun _ => fun
  | [d1, d2, d3, d4, d5] => { results := [.lit (.bool true)], args := [d1, d2, d3, d4, d5] }
  | _ => none }
def shiftOrderRow : OpenClaim := { program := "ytedjfmlmoommnaa", sum := "e04385082cdad03b48befb4f7d2b3ae2eb663f1086ceced3df6439e845f9fd51", func := "abecedary/abecedarylaw20.ShiftOrder", spec := "shiftOrder", unfollowed := true, recurses := true, apart := false }
def ShiftOrderSaid : Prop := shiftOrderRow.holds Try.pinned (OpenSpec.ofChange shiftOrderSpec)

/-- ITS FALSE NEIGHBOUR: 'it returns false'. Refute it at one input. -/
def shiftOrderWrong : ChangeSpec := { name := "shiftOrder", fn := fun _ => fun
  | [d1, d2, d3, d4, d5] => { results := [.lit (.bool false)], args := [d1, d2, d3, d4, d5] }
  | _ => none }
def ShiftOrderWrongFalsely : Prop := shiftOrderRow.holds Try.pinned (OpenSpec.ofChange shiftOrderWrong)

/-- 'abecedarylaw20.ShiftSpans': WHATEVER THE INPUT: true; the input reads as it did. -/
def shiftSpansSpec : ChangeSpec := { name := "shiftSpans", fn := fun _ => fun
  | [d1, d2, d3, d4] => { results := [.lit (.bool true)], args := [d1, d2, d3, d4] }
  | _ => none }
def shiftSpansRow : OpenClaim := { program := "ytedjfmlmoommnaa", sum := "e04385082cdad03b48befb4f7d2b3ae2eb663f1086ceced3df6439e845f9fd51", func := "abecedary/abecedarylaw20.ShiftSpans", spec := "shiftSpans", unfollowed := true, recurses := true, apart := false }
def ShiftSpansSaid : Prop := shiftSpansRow.holds Try.pinned (OpenSpec.ofChange shiftSpansSpec)

/-- ITS FALSE NEIGHBOUR: 'it returns false'. Refute it at one input. -/
def shiftSpansWrong : ChangeSpec := { name := "shiftSpans", fn := fun _ => fun
  | [d1, d2, d3, d4] => { results := [.lit (.bool false)], args := [d1, d2, d3, d4] }
  | _ => none }
def ShiftSpansWrongFalsely : Prop := shiftSpansRow.holds Try.pinned (OpenSpec.ofChange shiftSpansWrong)

/-- 'abecedarylaw20.ShiftTwo': WHATEVER THE INPUT: true; the input reads as it did. -/
def shiftTwoSpec : ChangeSpec := { name := "shiftTwo", fn := fun _ => fun
  | [d1, d2, d3, d4, d5] => { results := [.lit (.bool true)], args := [d1, d2, d3, d4, d5] }
  | _ => none }
def shiftTwoRow : OpenClaim := { program := "ytedjfmlmoommnaa", sum := "e04385082cdad03b48befb4f7d2b3ae2eb663f1086ceced3df6439e845f9fd51", func := "abecedary/abecedarylaw20.ShiftTwo", spec := "shiftTwo", unfollowed := true, recurses := true, apart := false }
def ShiftTwoSaid : Prop := shiftTwoRow.holds Try.pinned (OpenSpec.ofChange shiftTwoSpec)

/-- ITS FALSE NEIGHBOUR: 'it returns false'. Refute it at one input. -/
def shiftTwoWrong : ChangeSpec := { name := "shiftTwo", fn := fun _ => fun
  | [d1, d2, d3, d4, d5] => { results := [.lit (.bool false)], args := [d1, d2, d3, d4, d5] }
  | _ => none }
def ShiftTwoWrongFalsely : Prop := shiftTwoRow.holds Try.pinned (OpenSpec.ofChange shiftTwoWrong)

/-- 'abecedarylaw20.ShiftNone': WHATEVER THE INPUT: true; the input reads as it did. -/
def shiftNoneSpec : ChangeSpec := { name := "shiftNone", fn := fun _ => fun
  | [d1, d2, d3, d4] => { results := [.lit (.bool true)], args := [d1, d2, d3, d4] }
  | _ => none }
def shiftNoneRow : OpenClaim := { program := "ytedjfmlmoommnaa", sum := "e04385082cdad03b48befb4f7d2b3ae2eb663f1086ceced3df6439e845f9fd51", func := "abecedary/abecedarylaw20.ShiftNone", spec := "shiftNone", unfollowed := true, recurses := true, apart := false }
def ShiftNoneSaid : Prop := shiftNoneRow.holds Try.pinned (OpenSpec.ofChange shiftNoneSpec)

/-- ITS FALSE NEIGHBOUR: 'it returns false'. Refute it at one input. -/
def shiftNoneWrong : ChangeSpec := { name := "shiftNone", fn := fun _ => fun
  | [d1, d2, d3, d4] => { results := [.lit (.bool false)], args := [d1, d2, d3, d4] }
  | _ => none }
def ShiftNoneWrongFalsely : Prop := shiftNoneRow.holds Try.pinned (OpenSpec.ofChange shiftNoneWrong)

/-- 'abecedarylaw02.ClassAll': WHATEVER THE INPUT: true; the input reads as it did. -/
def classAllSpec : ChangeSpec := { name := "classAll", fn := fun _ => fun
  | [d1, d2] => { results := [.lit (.bool true)], args := [d1, d2] }
  | _ => none }
def classAllRow : OpenClaim := { program := "ytedjfmlmoommnaa", sum := "e04385082cdad03b48befb4f7d2b3ae2eb663f1086ceced3df6439e845f9fd51", func := "abecedary/abecedarylaw02.ClassAll", spec := "classAll", apart := false }
def ClassAllSaid : Prop := classAllRow.holds Try.pinned (OpenSpec.ofChange classAllSpec)

/-- ITS FALSE NEIGHBOUR: 'it returns false'. Refute it at one input. -/
def classAllWrong : ChangeSpec := { name := "classAll", fn := fun _ => fun
  | [d1, d2] => { results := [.lit (.bool false)], args := [d1, d2] }
  | _ => none }
def ClassAllWrongFalsely : Prop := classAllRow.holds Try.pinned (OpenSpec.ofChange classAllWrong)

/-- 'abecedarylaw02.ClassNumbers': WHATEVER THE INPUT: true; the input reads as it did. -/
def classNumbersSpec : ChangeSpec := { name := "classNumbers", fn := fun _ => fun
  | [d1, d2] => { results := [.lit (.bool true)], args := [d1, d2] }
  | _ => none }
def classNumbersRow : OpenClaim := { program := "ytedjfmlmoommnaa", sum := "e04385082cdad03b48befb4f7d2b3ae2eb663f1086ceced3df6439e845f9fd51", func := "abecedary/abecedarylaw02.ClassNumbers", spec := "classNumbers", apart := false }
def ClassNumbersSaid : Prop := classNumbersRow.holds Try.pinned (OpenSpec.ofChange classNumbersSpec)

/-- ITS FALSE NEIGHBOUR: 'it returns false'. Refute it at one input. -/
def classNumbersWrong : ChangeSpec := { name := "classNumbers", fn := fun _ => fun
  | [d1, d2] => { results := [.lit (.bool false)], args := [d1, d2] }
  | _ => none }
def ClassNumbersWrongFalsely : Prop := classNumbersRow.holds Try.pinned (OpenSpec.ofChange classNumbersWrong)

/-- 'abecedarylaw02.ClassWrong': WHATEVER THE INPUT: true; the input reads as it did. -/
def classWrongSpec : ChangeSpec := { name := "classWrong", fn := fun _ => fun
  | [d1, d2, d3] => { results := [.lit (.bool true)], args := [d1, d2, d3] }
  | _ => none }
def classWrongRow : OpenClaim := { program := "ytedjfmlmoommnaa", sum := "e04385082cdad03b48befb4f7d2b3ae2eb663f1086ceced3df6439e845f9fd51", func := "abecedary/abecedarylaw02.ClassWrong", spec := "classWrong", apart := false }
def ClassWrongSaid : Prop := classWrongRow.holds Try.pinned (OpenSpec.ofChange classWrongSpec)

/-- ITS FALSE NEIGHBOUR: 'it returns false'. Refute it at one input. -/
def classWrongWrong : ChangeSpec := { name := "classWrong", fn := fun _ => fun
  | [d1, d2, d3] => { results := [.lit (.bool false)], args := [d1, d2, d3] }
  | _ => none }
def ClassWrongWrongFalsely : Prop := classWrongRow.holds Try.pinned (OpenSpec.ofChange classWrongWrong)

/-- 'abecedarylaw02.ClassMany': WHATEVER THE INPUT: true; the input reads as it did. -/
def classManySpec : ChangeSpec := { name := "classMany", fn := fun _ => fun
  | [d1, d2] => { results := [.lit (.bool true)], args := [d1, d2] }
  | _ => none }
def classManyRow : OpenClaim := { program := "ytedjfmlmoommnaa", sum := "e04385082cdad03b48befb4f7d2b3ae2eb663f1086ceced3df6439e845f9fd51", func := "abecedary/abecedarylaw02.ClassMany", spec := "classMany", apart := false }
def ClassManySaid : Prop := classManyRow.holds Try.pinned (OpenSpec.ofChange classManySpec)

/-- ITS FALSE NEIGHBOUR: 'it returns false'. Refute it at one input. -/
def classManyWrong : ChangeSpec := { name := "classMany", fn := fun _ => fun
  | [d1, d2] => { results := [.lit (.bool false)], args := [d1, d2] }
  | _ => none }
def ClassManyWrongFalsely : Prop := classManyRow.holds Try.pinned (OpenSpec.ofChange classManyWrong)

/- THE SECOND FORM. 'bulk': how many values and letters a reading holds, each counted each time it is reached (what is shared counts as often as it is met; a slice's spare places count too). A statement '..UptoSaid' is the law's where the arguments, and the package variables that the reading takes, are together of bulk at most 1048576: NARROWER than '..Said'. Prove '..Said' where nothing that the law and all that it calls make is longer than what came in: it says more and counts as full. Else prove '..UptoSaid'. A law counts once. -/
mutual
def uptoBulk {H : Type} : DataW H → Nat
  | .lit (.string bytes) => bytes.length + 1
  | .lit _ => 1
  | .nil => 1
  | .ptr d => uptoBulk d + 1
  | .slice elems spare => uptoBulkAll elems + uptoBulkAll spare + 1
  | .agg parts => uptoBulkAll parts + 1
  | .iface _ d => uptoBulk d + 1
  | .map entries => uptoBulkEntries entries + 1
  | .held _ => 1
def uptoBulkAll {H : Type} : List (DataW H) → Nat
  | [] => 0
  | d :: r => uptoBulk d + uptoBulkAll r
def uptoBulkEntries {H : Type} : List (Lit × DataW H) → Nat
  | [] => 0
  | x :: r => uptoBulkEntry x + uptoBulkEntries r
def uptoBulkEntry {H : Type} : Lit × DataW H → Nat
  | (.string bytes, d) => bytes.length + uptoBulk d + 1
  | (_, d) => uptoBulk d + 1
 end
def uptoSmall : (H : Type) → List (DataW H) → Bool := fun _ ds => decide (uptoBulkAll ds ≤ 1048576)
def OpenSpec.upto (s : _root_.Go.ChangeSpec) : _root_.Go.OpenSpec := { _root_.Go.OpenSpec.ofChange s with cond := some uptoSmall }

/-- 'abecedarylaw07.EditApplies', WHERE WHAT IT READS IS OF BULK AT MOST 1048576: true; the input reads as it did. -/
def editAppliesUptoRow : OpenClaim := { program := "ytedjfmlmoommnaa", sum := "e04385082cdad03b48befb4f7d2b3ae2eb663f1086ceced3df6439e845f9fd51", func := "abecedary/abecedarylaw07.EditApplies", spec := "editApplies", apart := false, narrowed := true }
def EditAppliesUptoSaid : Prop := editAppliesUptoRow.holds Try.pinned (OpenSpec.upto editAppliesSpec)

/-- 'abecedarylaw07.EditKnown', WHERE WHAT IT READS IS OF BULK AT MOST 1048576: true; the input reads as it did. -/
def editKnownUptoRow : OpenClaim := { program := "ytedjfmlmoommnaa", sum := "e04385082cdad03b48befb4f7d2b3ae2eb663f1086ceced3df6439e845f9fd51", func := "abecedary/abecedarylaw07.EditKnown", spec := "editKnown", apart := false, narrowed := true }
def EditKnownUptoSaid : Prop := editKnownUptoRow.holds Try.pinned (OpenSpec.upto editKnownSpec)

/-- 'abecedarylaw20.ShiftOrder', WHERE WHAT IT READS IS OF BULK AT MOST 1048576: true; the input reads as it did. -/
def shiftOrderUptoRow : OpenClaim := { program := "ytedjfmlmoommnaa", sum := "e04385082cdad03b48befb4f7d2b3ae2eb663f1086ceced3df6439e845f9fd51", func := "abecedary/abecedarylaw20.ShiftOrder", spec := "shiftOrder", unfollowed := true, recurses := true, apart := false, narrowed := true }
def ShiftOrderUptoSaid : Prop := shiftOrderUptoRow.holds Try.pinned (OpenSpec.upto shiftOrderSpec)

/-- 'abecedarylaw20.ShiftSpans', WHERE WHAT IT READS IS OF BULK AT MOST 1048576: true; the input reads as it did. -/
def shiftSpansUptoRow : OpenClaim := { program := "ytedjfmlmoommnaa", sum := "e04385082cdad03b48befb4f7d2b3ae2eb663f1086ceced3df6439e845f9fd51", func := "abecedary/abecedarylaw20.ShiftSpans", spec := "shiftSpans", unfollowed := true, recurses := true, apart := false, narrowed := true }
def ShiftSpansUptoSaid : Prop := shiftSpansUptoRow.holds Try.pinned (OpenSpec.upto shiftSpansSpec)

/-- 'abecedarylaw20.ShiftTwo', WHERE WHAT IT READS IS OF BULK AT MOST 1048576: true; the input reads as it did. -/
def shiftTwoUptoRow : OpenClaim := { program := "ytedjfmlmoommnaa", sum := "e04385082cdad03b48befb4f7d2b3ae2eb663f1086ceced3df6439e845f9fd51", func := "abecedary/abecedarylaw20.ShiftTwo", spec := "shiftTwo", unfollowed := true, recurses := true, apart := false, narrowed := true }
def ShiftTwoUptoSaid : Prop := shiftTwoUptoRow.holds Try.pinned (OpenSpec.upto shiftTwoSpec)

/-- 'abecedarylaw20.ShiftNone', WHERE WHAT IT READS IS OF BULK AT MOST 1048576: true; the input reads as it did. -/
def shiftNoneUptoRow : OpenClaim := { program := "ytedjfmlmoommnaa", sum := "e04385082cdad03b48befb4f7d2b3ae2eb663f1086ceced3df6439e845f9fd51", func := "abecedary/abecedarylaw20.ShiftNone", spec := "shiftNone", unfollowed := true, recurses := true, apart := false, narrowed := true }
def ShiftNoneUptoSaid : Prop := shiftNoneUptoRow.holds Try.pinned (OpenSpec.upto shiftNoneSpec)

/-- 'abecedarylaw02.ClassAll', WHERE WHAT IT READS IS OF BULK AT MOST 1048576: true; the input reads as it did. -/
def classAllUptoRow : OpenClaim := { program := "ytedjfmlmoommnaa", sum := "e04385082cdad03b48befb4f7d2b3ae2eb663f1086ceced3df6439e845f9fd51", func := "abecedary/abecedarylaw02.ClassAll", spec := "classAll", apart := false, narrowed := true }
def ClassAllUptoSaid : Prop := classAllUptoRow.holds Try.pinned (OpenSpec.upto classAllSpec)

/-- 'abecedarylaw02.ClassNumbers', WHERE WHAT IT READS IS OF BULK AT MOST 1048576: true; the input reads as it did. -/
def classNumbersUptoRow : OpenClaim := { program := "ytedjfmlmoommnaa", sum := "e04385082cdad03b48befb4f7d2b3ae2eb663f1086ceced3df6439e845f9fd51", func := "abecedary/abecedarylaw02.ClassNumbers", spec := "classNumbers", apart := false, narrowed := true }
def ClassNumbersUptoSaid : Prop := classNumbersUptoRow.holds Try.pinned (OpenSpec.upto classNumbersSpec)

/-- 'abecedarylaw02.ClassWrong', WHERE WHAT IT READS IS OF BULK AT MOST 1048576: true; the input reads as it did. -/
def classWrongUptoRow : OpenClaim := { program := "ytedjfmlmoommnaa", sum := "e04385082cdad03b48befb4f7d2b3ae2eb663f1086ceced3df6439e845f9fd51", func := "abecedary/abecedarylaw02.ClassWrong", spec := "classWrong", apart := false, narrowed := true }
def ClassWrongUptoSaid : Prop := classWrongUptoRow.holds Try.pinned (OpenSpec.upto classWrongSpec)

/-- 'abecedarylaw02.ClassMany', WHERE WHAT IT READS IS OF BULK AT MOST 1048576: true; the input reads as it did. -/
def classManyUptoRow : OpenClaim := { program := "ytedjfmlmoommnaa", sum := "e04385082cdad03b48befb4f7d2b3ae2eb663f1086ceced3df6439e845f9fd51", func := "abecedary/abecedarylaw02.ClassMany", spec := "classMany", apart := false, narrowed := true }
def ClassManyUptoSaid : Prop := classManyUptoRow.holds Try.pinned (OpenSpec.upto classManySpec)

end Rows
end Go.Proofs.Ytedjfmlmoommnaa
