/-
  DERIVED. GIVEN WITH THE SEED: THE CARDS: each row of YtmcnnfpeicnnjaaDoorRows.lean that lists a variable, with what it lists TIED to the program's text (the seventh form; the later family's looks); each row that meets fmt, with fmt's text TOLD by the authors' own Lean function (tested against real Go, not proved from fmt's source: count such statements apart). THE CARD IS WHAT COUNTS. Prove the row's statement (the work); the ties are given (YtmcnnfpeicnnjaaDoorTie.lean); close each card by the builder's one call (the guide's Derived/Test/ToyasCard.lean, 'card_holds'). Laid BY PROGRAM, IN A SANDBOX (cutbox-door.mjs). By AI agents, Wed Nov 11 2026. No macro, syntax, notation, axiom, sorry.
-/
import Derived.Test.YtmcnnfpeicnnjaaDoorRows
import GoSem.ClaimSeven
namespace Go.Proofs.YtmcnnfpeicnnjaaDoor
namespace Rows

/-- THE TIED CARD OF 'abecedarylaw11.AffixWrong'. -/
def affixWrongCard : Claim7 := { stood := { row := affixWrongRow, standIns := [], harness := (true, "fd2c78bf4b561b7d8a20740766889d57f78cc39c916db8b974eb476ea3661040"), looks := false }, kinds := [], alts := [], laidByText := true, laidKinds := [.data, .pinned], laidTests := true, laidLooks := .later }
def AffixWrongCardSaid : Prop := Claim7.holds Tryd.pinned (.plain (OpenSpec.ofChange affixWrongSpec)) affixWrongCard

/-- THE TIED CARD OF 'abecedarylaw11.AffixMany'. -/
def affixManyCard : Claim7 := { stood := { row := affixManyRow, standIns := [], harness := (true, "fd2c78bf4b561b7d8a20740766889d57f78cc39c916db8b974eb476ea3661040"), looks := false }, kinds := [], alts := [], laidByText := true, laidKinds := [.data, .pinned], laidTests := true, laidLooks := .later }
def AffixManyCardSaid : Prop := Claim7.holds Tryd.pinned (.plain (OpenSpec.ofChange affixManySpec)) affixManyCard

/-- THE TIED CARD OF 'abecedarylaw09.CondBack'. -/
def condBackCard : Claim7 := { stood := { row := condBackRow, standIns := [], harness := (true, "fd2c78bf4b561b7d8a20740766889d57f78cc39c916db8b974eb476ea3661040"), looks := false }, kinds := [], alts := [], laidByText := true, laidKinds := [.data, .pinned], laidTests := true, laidLooks := .later }
def CondBackCardSaid : Prop := Claim7.holds Tryd.pinned (.plain (OpenSpec.ofChange condBackSpec)) condBackCard

/-- THE TIED CARD OF 'abecedarylaw09.CondWays'. -/
def condWaysCard : Claim7 := { stood := { row := condWaysRow, standIns := [], harness := (true, "fd2c78bf4b561b7d8a20740766889d57f78cc39c916db8b974eb476ea3661040"), looks := false }, kinds := [], alts := [], laidByText := true, laidKinds := [.data, .pinned], laidTests := true, laidLooks := .later }
def CondWaysCardSaid : Prop := Claim7.holds Tryd.pinned (.plain (OpenSpec.ofChange condWaysSpec)) condWaysCard

/-- THE TIED CARD OF 'abecedarylaw10.RuleBack'. -/
def ruleBackCard : Claim7 := { stood := { row := ruleBackRow, standIns := [], harness := (true, "fd2c78bf4b561b7d8a20740766889d57f78cc39c916db8b974eb476ea3661040"), looks := false }, kinds := [], alts := [], laidByText := true, laidKinds := [.data, .pinned], laidTests := true, laidLooks := .later }
def RuleBackCardSaid : Prop := Claim7.holds Tryd.pinned (.plain (OpenSpec.ofChange ruleBackSpec)) ruleBackCard

/-- THE TIED CARD OF 'abecedarylaw10.RuleKnown'. -/
def ruleKnownCard : Claim7 := { stood := { row := ruleKnownRow, standIns := [], harness := (true, "fd2c78bf4b561b7d8a20740766889d57f78cc39c916db8b974eb476ea3661040"), looks := false }, kinds := [], alts := [], laidByText := true, laidKinds := [.data, .pinned], laidTests := true, laidLooks := .later }
def RuleKnownCardSaid : Prop := Claim7.holds Tryd.pinned (.plain (OpenSpec.ofChange ruleKnownSpec)) ruleKnownCard

/-- THE TIED CARD OF 'abecedarylaw10.RuleAffixes'. -/
def ruleAffixesCard : Claim7 := { stood := { row := ruleAffixesRow, standIns := [], harness := (true, "fd2c78bf4b561b7d8a20740766889d57f78cc39c916db8b974eb476ea3661040"), looks := false }, kinds := [], alts := [], laidByText := true, laidKinds := [.data, .pinned], laidTests := true, laidLooks := .later }
def RuleAffixesCardSaid : Prop := Claim7.holds Tryd.pinned (.plain (OpenSpec.ofChange ruleAffixesSpec)) ruleAffixesCard

/-- THE TIED CARD OF 'abecedarylaw11.AffixBack'. -/
def affixBackCard : Claim7 := { stood := { row := affixBackRow, standIns := [], harness := (true, "fd2c78bf4b561b7d8a20740766889d57f78cc39c916db8b974eb476ea3661040"), looks := false }, kinds := [], alts := [], laidByText := true, laidKinds := [.data, .pinned], laidTests := true, laidLooks := .later }
def AffixBackCardSaid : Prop := Claim7.holds Tryd.pinned (.plain (OpenSpec.ofChange affixBackSpec)) affixBackCard

/-- THE SECOND FORM's CARD OF 'abecedarylaw11.AffixWrong'. -/
def affixWrongUptoCard : Claim7 := { stood := { row := affixWrongUptoRow, standIns := [], harness := (true, "fd2c78bf4b561b7d8a20740766889d57f78cc39c916db8b974eb476ea3661040"), looks := false }, kinds := [], alts := [], laidByText := true, laidKinds := [.data, .pinned], laidTests := true, laidLooks := .later }
def AffixWrongUptoCardSaid : Prop := Claim7.holds Tryd.pinned (.plain (OpenSpec.upto affixWrongSpec)) affixWrongUptoCard

/-- THE SECOND FORM's CARD OF 'abecedarylaw11.AffixMany'. -/
def affixManyUptoCard : Claim7 := { stood := { row := affixManyUptoRow, standIns := [], harness := (true, "fd2c78bf4b561b7d8a20740766889d57f78cc39c916db8b974eb476ea3661040"), looks := false }, kinds := [], alts := [], laidByText := true, laidKinds := [.data, .pinned], laidTests := true, laidLooks := .later }
def AffixManyUptoCardSaid : Prop := Claim7.holds Tryd.pinned (.plain (OpenSpec.upto affixManySpec)) affixManyUptoCard

/-- THE SECOND FORM's CARD OF 'abecedarylaw09.CondBack'. -/
def condBackUptoCard : Claim7 := { stood := { row := condBackUptoRow, standIns := [], harness := (true, "fd2c78bf4b561b7d8a20740766889d57f78cc39c916db8b974eb476ea3661040"), looks := false }, kinds := [], alts := [], laidByText := true, laidKinds := [.data, .pinned], laidTests := true, laidLooks := .later }
def CondBackUptoCardSaid : Prop := Claim7.holds Tryd.pinned (.plain (OpenSpec.upto condBackSpec)) condBackUptoCard

/-- THE SECOND FORM's CARD OF 'abecedarylaw09.CondWays'. -/
def condWaysUptoCard : Claim7 := { stood := { row := condWaysUptoRow, standIns := [], harness := (true, "fd2c78bf4b561b7d8a20740766889d57f78cc39c916db8b974eb476ea3661040"), looks := false }, kinds := [], alts := [], laidByText := true, laidKinds := [.data, .pinned], laidTests := true, laidLooks := .later }
def CondWaysUptoCardSaid : Prop := Claim7.holds Tryd.pinned (.plain (OpenSpec.upto condWaysSpec)) condWaysUptoCard

/-- THE SECOND FORM's CARD OF 'abecedarylaw10.RuleBack'. -/
def ruleBackUptoCard : Claim7 := { stood := { row := ruleBackUptoRow, standIns := [], harness := (true, "fd2c78bf4b561b7d8a20740766889d57f78cc39c916db8b974eb476ea3661040"), looks := false }, kinds := [], alts := [], laidByText := true, laidKinds := [.data, .pinned], laidTests := true, laidLooks := .later }
def RuleBackUptoCardSaid : Prop := Claim7.holds Tryd.pinned (.plain (OpenSpec.upto ruleBackSpec)) ruleBackUptoCard

/-- THE SECOND FORM's CARD OF 'abecedarylaw10.RuleKnown'. -/
def ruleKnownUptoCard : Claim7 := { stood := { row := ruleKnownUptoRow, standIns := [], harness := (true, "fd2c78bf4b561b7d8a20740766889d57f78cc39c916db8b974eb476ea3661040"), looks := false }, kinds := [], alts := [], laidByText := true, laidKinds := [.data, .pinned], laidTests := true, laidLooks := .later }
def RuleKnownUptoCardSaid : Prop := Claim7.holds Tryd.pinned (.plain (OpenSpec.upto ruleKnownSpec)) ruleKnownUptoCard

/-- THE SECOND FORM's CARD OF 'abecedarylaw10.RuleAffixes'. -/
def ruleAffixesUptoCard : Claim7 := { stood := { row := ruleAffixesUptoRow, standIns := [], harness := (true, "fd2c78bf4b561b7d8a20740766889d57f78cc39c916db8b974eb476ea3661040"), looks := false }, kinds := [], alts := [], laidByText := true, laidKinds := [.data, .pinned], laidTests := true, laidLooks := .later }
def RuleAffixesUptoCardSaid : Prop := Claim7.holds Tryd.pinned (.plain (OpenSpec.upto ruleAffixesSpec)) ruleAffixesUptoCard

/-- THE SECOND FORM's CARD OF 'abecedarylaw11.AffixBack'. -/
def affixBackUptoCard : Claim7 := { stood := { row := affixBackUptoRow, standIns := [], harness := (true, "fd2c78bf4b561b7d8a20740766889d57f78cc39c916db8b974eb476ea3661040"), looks := false }, kinds := [], alts := [], laidByText := true, laidKinds := [.data, .pinned], laidTests := true, laidLooks := .later }
def AffixBackUptoCardSaid : Prop := Claim7.holds Tryd.pinned (.plain (OpenSpec.upto affixBackSpec)) affixBackUptoCard
end Rows
end Go.Proofs.YtmcnnfpeicnnjaaDoor
