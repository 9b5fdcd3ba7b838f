/-
  DERIVED. GIVEN WITH THE SEED: THE CARDS: each row of YtcljiahpgbedhaaDoorRows.lean that lists a variable, with what it lists TIED to the program's text (the seventh form; the later family's looks); each row that meets fmt, with fmt's text TOLD by the authors' own Lean function (tested against real Go, not proved from fmt's source: count such statements apart). THE CARD IS WHAT COUNTS. Prove the row's statement (the work); the ties are given (YtcljiahpgbedhaaDoorTie.lean); close each card by the builder's one call (the guide's Derived/Test/ToyasCard.lean, 'card_holds'). Laid BY PROGRAM, IN A SANDBOX (cutbox-door.mjs). By AI agents, Wed Nov 11 2026. No macro, syntax, notation, axiom, sorry.
-/
import Derived.Test.YtcljiahpgbedhaaDoorRows
import GoSem.ClaimSeven
namespace Go.Proofs.YtcljiahpgbedhaaDoor
namespace Rows

/-- THE TIED CARD OF 'abecedarylaw01.RunesAll'. -/
def runesAllCard : Claim7 := { stood := { row := runesAllRow, standIns := [], harness := (true, "48ddabf55903e5247e3054a41d9d49dfbdd8c861446e942df4ba5b2443a9731c"), looks := false }, kinds := [], alts := [], laidByText := true, laidKinds := [.data, .pinned], laidTests := true, laidLooks := .later }
def RunesAllCardSaid : Prop := Claim7.holds Tryd.pinned (.plain (OpenSpec.ofChange runesAllSpec)) runesAllCard

/-- THE TIED CARD OF 'abecedarylaw01.RunesSide'. -/
def runesSideCard : Claim7 := { stood := { row := runesSideRow, standIns := [], harness := (true, "48ddabf55903e5247e3054a41d9d49dfbdd8c861446e942df4ba5b2443a9731c"), looks := false }, kinds := [], alts := [], laidByText := true, laidKinds := [.data, .pinned], laidTests := true, laidLooks := .later }
def RunesSideCardSaid : Prop := Claim7.holds Tryd.pinned (.plain (OpenSpec.ofChange runesSideSpec)) runesSideCard

/-- THE TIED CARD OF 'abecedarylaw01.RunesCodes'. -/
def runesCodesCard : Claim7 := { stood := { row := runesCodesRow, standIns := [], harness := (true, "48ddabf55903e5247e3054a41d9d49dfbdd8c861446e942df4ba5b2443a9731c"), looks := false }, kinds := [], alts := [], laidByText := true, laidKinds := [.data, .pinned], laidTests := true, laidLooks := .later }
def RunesCodesCardSaid : Prop := Claim7.holds Tryd.pinned (.plain (OpenSpec.ofChange runesCodesSpec)) runesCodesCard

/-- THE TIED CARD OF 'abecedarylaw01.RunesWrong'. -/
def runesWrongCard : Claim7 := { stood := { row := runesWrongRow, standIns := [], harness := (true, "48ddabf55903e5247e3054a41d9d49dfbdd8c861446e942df4ba5b2443a9731c"), looks := false }, kinds := [], alts := [], laidByText := true, laidKinds := [.data, .pinned], laidTests := true, laidLooks := .later }
def RunesWrongCardSaid : Prop := Claim7.holds Tryd.pinned (.plain (OpenSpec.ofChange runesWrongSpec)) runesWrongCard

/-- THE TIED CARD OF 'abecedarylaw03.SegNumbers'. -/
def segNumbersCard : Claim7 := { stood := { row := segNumbersRow, standIns := [], harness := (true, "48ddabf55903e5247e3054a41d9d49dfbdd8c861446e942df4ba5b2443a9731c"), looks := false }, kinds := [], alts := [], laidByText := true, laidKinds := [.data, .pinned], laidTests := true, laidLooks := .later }
def SegNumbersCardSaid : Prop := Claim7.holds Tryd.pinned (.plain (OpenSpec.ofChange segNumbersSpec)) segNumbersCard

/-- THE TIED CARD OF 'abecedarylaw03.SegTouch'. -/
def segTouchCard : Claim7 := { stood := { row := segTouchRow, standIns := [], harness := (true, "48ddabf55903e5247e3054a41d9d49dfbdd8c861446e942df4ba5b2443a9731c"), looks := false }, kinds := [], alts := [], laidByText := true, laidKinds := [.data, .pinned], laidTests := true, laidLooks := .later }
def SegTouchCardSaid : Prop := Claim7.holds Tryd.pinned (.plain (OpenSpec.ofChange segTouchSpec)) segTouchCard

/-- THE TIED CARD OF 'abecedarylaw03.SegCounts'. -/
def segCountsCard : Claim7 := { stood := { row := segCountsRow, standIns := [], harness := (true, "48ddabf55903e5247e3054a41d9d49dfbdd8c861446e942df4ba5b2443a9731c"), looks := false }, kinds := [], alts := [], laidByText := true, laidKinds := [.data, .pinned], laidTests := true, laidLooks := .later }
def SegCountsCardSaid : Prop := Claim7.holds Tryd.pinned (.plain (OpenSpec.ofChange segCountsSpec)) segCountsCard

/-- THE TIED CARD OF 'abecedarylaw03.SegAll'. -/
def segAllCard : Claim7 := { stood := { row := segAllRow, standIns := [], harness := (true, "48ddabf55903e5247e3054a41d9d49dfbdd8c861446e942df4ba5b2443a9731c"), looks := false }, kinds := [], alts := [], laidByText := true, laidKinds := [.data, .pinned], laidTests := true, laidLooks := .later }
def SegAllCardSaid : Prop := Claim7.holds Tryd.pinned (.plain (OpenSpec.ofChange segAllSpec)) segAllCard

/-- THE TIED CARD OF 'abecedarylaw03.SegJoins'. -/
def segJoinsCard : Claim7 := { stood := { row := segJoinsRow, standIns := [], harness := (true, "48ddabf55903e5247e3054a41d9d49dfbdd8c861446e942df4ba5b2443a9731c"), looks := false }, kinds := [], alts := [], laidByText := true, laidKinds := [.data, .pinned], laidTests := true, laidLooks := .later }
def SegJoinsCardSaid : Prop := Claim7.holds Tryd.pinned (.plain (OpenSpec.ofChange segJoinsSpec)) segJoinsCard

/-- THE SECOND FORM's CARD OF 'abecedarylaw01.RunesAll'. -/
def runesAllUptoCard : Claim7 := { stood := { row := runesAllUptoRow, standIns := [], harness := (true, "48ddabf55903e5247e3054a41d9d49dfbdd8c861446e942df4ba5b2443a9731c"), looks := false }, kinds := [], alts := [], laidByText := true, laidKinds := [.data, .pinned], laidTests := true, laidLooks := .later }
def RunesAllUptoCardSaid : Prop := Claim7.holds Tryd.pinned (.plain (OpenSpec.upto runesAllSpec)) runesAllUptoCard

/-- THE SECOND FORM's CARD OF 'abecedarylaw01.RunesSide'. -/
def runesSideUptoCard : Claim7 := { stood := { row := runesSideUptoRow, standIns := [], harness := (true, "48ddabf55903e5247e3054a41d9d49dfbdd8c861446e942df4ba5b2443a9731c"), looks := false }, kinds := [], alts := [], laidByText := true, laidKinds := [.data, .pinned], laidTests := true, laidLooks := .later }
def RunesSideUptoCardSaid : Prop := Claim7.holds Tryd.pinned (.plain (OpenSpec.upto runesSideSpec)) runesSideUptoCard

/-- THE SECOND FORM's CARD OF 'abecedarylaw01.RunesCodes'. -/
def runesCodesUptoCard : Claim7 := { stood := { row := runesCodesUptoRow, standIns := [], harness := (true, "48ddabf55903e5247e3054a41d9d49dfbdd8c861446e942df4ba5b2443a9731c"), looks := false }, kinds := [], alts := [], laidByText := true, laidKinds := [.data, .pinned], laidTests := true, laidLooks := .later }
def RunesCodesUptoCardSaid : Prop := Claim7.holds Tryd.pinned (.plain (OpenSpec.upto runesCodesSpec)) runesCodesUptoCard

/-- THE SECOND FORM's CARD OF 'abecedarylaw01.RunesWrong'. -/
def runesWrongUptoCard : Claim7 := { stood := { row := runesWrongUptoRow, standIns := [], harness := (true, "48ddabf55903e5247e3054a41d9d49dfbdd8c861446e942df4ba5b2443a9731c"), looks := false }, kinds := [], alts := [], laidByText := true, laidKinds := [.data, .pinned], laidTests := true, laidLooks := .later }
def RunesWrongUptoCardSaid : Prop := Claim7.holds Tryd.pinned (.plain (OpenSpec.upto runesWrongSpec)) runesWrongUptoCard

/-- THE SECOND FORM's CARD OF 'abecedarylaw03.SegNumbers'. -/
def segNumbersUptoCard : Claim7 := { stood := { row := segNumbersUptoRow, standIns := [], harness := (true, "48ddabf55903e5247e3054a41d9d49dfbdd8c861446e942df4ba5b2443a9731c"), looks := false }, kinds := [], alts := [], laidByText := true, laidKinds := [.data, .pinned], laidTests := true, laidLooks := .later }
def SegNumbersUptoCardSaid : Prop := Claim7.holds Tryd.pinned (.plain (OpenSpec.upto segNumbersSpec)) segNumbersUptoCard

/-- THE SECOND FORM's CARD OF 'abecedarylaw03.SegTouch'. -/
def segTouchUptoCard : Claim7 := { stood := { row := segTouchUptoRow, standIns := [], harness := (true, "48ddabf55903e5247e3054a41d9d49dfbdd8c861446e942df4ba5b2443a9731c"), looks := false }, kinds := [], alts := [], laidByText := true, laidKinds := [.data, .pinned], laidTests := true, laidLooks := .later }
def SegTouchUptoCardSaid : Prop := Claim7.holds Tryd.pinned (.plain (OpenSpec.upto segTouchSpec)) segTouchUptoCard

/-- THE SECOND FORM's CARD OF 'abecedarylaw03.SegCounts'. -/
def segCountsUptoCard : Claim7 := { stood := { row := segCountsUptoRow, standIns := [], harness := (true, "48ddabf55903e5247e3054a41d9d49dfbdd8c861446e942df4ba5b2443a9731c"), looks := false }, kinds := [], alts := [], laidByText := true, laidKinds := [.data, .pinned], laidTests := true, laidLooks := .later }
def SegCountsUptoCardSaid : Prop := Claim7.holds Tryd.pinned (.plain (OpenSpec.upto segCountsSpec)) segCountsUptoCard

/-- THE SECOND FORM's CARD OF 'abecedarylaw03.SegAll'. -/
def segAllUptoCard : Claim7 := { stood := { row := segAllUptoRow, standIns := [], harness := (true, "48ddabf55903e5247e3054a41d9d49dfbdd8c861446e942df4ba5b2443a9731c"), looks := false }, kinds := [], alts := [], laidByText := true, laidKinds := [.data, .pinned], laidTests := true, laidLooks := .later }
def SegAllUptoCardSaid : Prop := Claim7.holds Tryd.pinned (.plain (OpenSpec.upto segAllSpec)) segAllUptoCard

/-- THE SECOND FORM's CARD OF 'abecedarylaw03.SegJoins'. -/
def segJoinsUptoCard : Claim7 := { stood := { row := segJoinsUptoRow, standIns := [], harness := (true, "48ddabf55903e5247e3054a41d9d49dfbdd8c861446e942df4ba5b2443a9731c"), looks := false }, kinds := [], alts := [], laidByText := true, laidKinds := [.data, .pinned], laidTests := true, laidLooks := .later }
def SegJoinsUptoCardSaid : Prop := Claim7.holds Tryd.pinned (.plain (OpenSpec.upto segJoinsSpec)) segJoinsUptoCard
end Rows
end Go.Proofs.YtcljiahpgbedhaaDoor
