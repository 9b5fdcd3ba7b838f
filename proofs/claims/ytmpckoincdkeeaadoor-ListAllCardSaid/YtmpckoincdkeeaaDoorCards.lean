/-
  DERIVED. GIVEN WITH THE SEED: THE CARDS: each row of YtmpckoincdkeeaaDoorRows.lean that lists a variable, with what it lists TIED to the program's text (the seventh form; the later family's looks); each row that meets fmt, with fmt's text TOLD by the authors' own Lean function (tested against real Go, not proved from fmt's source: count such statements apart). THE CARD IS WHAT COUNTS. Prove the row's statement (the work); the ties are given (YtmpckoincdkeeaaDoorTie.lean); close each card by the builder's one call (the guide's Derived/Test/ToyasCard.lean, 'card_holds'). Laid BY PROGRAM, IN A SANDBOX (cutbox-door.mjs). By AI agents, Wed Nov 11 2026. No macro, syntax, notation, axiom, sorry.
-/
import Derived.Test.YtmpckoincdkeeaaDoorRows
import GoSem.ClaimSeven
namespace Go.Proofs.YtmpckoincdkeeaaDoor
namespace Rows

/-- THE TIED CARD OF 'abecedarylaw14.FoldTwice'. -/
def foldTwiceCard : Claim7 := { stood := { row := foldTwiceRow, standIns := [], harness := (true, "67ee7408f3f506f66cbf8ee462a08197b0871fe558c233aa5ac04fba42a26f0f"), looks := false }, kinds := [], alts := [], laidByText := true, laidKinds := [.data, .pinned], laidTests := true, laidLooks := .later }
def FoldTwiceCardSaid : Prop := Claim7.holds Tryd.pinned (.plain (OpenSpec.ofChange foldTwiceSpec)) foldTwiceCard

/-- THE TIED CARD OF 'abecedarylaw14.FoldShapes'. -/
def foldShapesCard : Claim7 := { stood := { row := foldShapesRow, standIns := [], harness := (true, "67ee7408f3f506f66cbf8ee462a08197b0871fe558c233aa5ac04fba42a26f0f"), looks := false }, kinds := [], alts := [], laidByText := true, laidKinds := [.data, .pinned], laidTests := true, laidLooks := .later }
def FoldShapesCardSaid : Prop := Claim7.holds Tryd.pinned (.plain (OpenSpec.ofChange foldShapesSpec)) foldShapesCard

/-- THE TIED CARD OF 'abecedarylaw14.FoldPairs'. -/
def foldPairsCard : Claim7 := { stood := { row := foldPairsRow, standIns := [], harness := (true, "67ee7408f3f506f66cbf8ee462a08197b0871fe558c233aa5ac04fba42a26f0f"), looks := false }, kinds := [], alts := [], laidByText := true, laidKinds := [.data, .pinned], laidTests := true, laidLooks := .later }
def FoldPairsCardSaid : Prop := Claim7.holds Tryd.pinned (.plain (OpenSpec.ofChange foldPairsSpec)) foldPairsCard

/-- THE TIED CARD OF 'abecedarylaw14.FoldSides'. -/
def foldSidesCard : Claim7 := { stood := { row := foldSidesRow, standIns := [], harness := (true, "67ee7408f3f506f66cbf8ee462a08197b0871fe558c233aa5ac04fba42a26f0f"), looks := false }, kinds := [], alts := [], laidByText := true, laidKinds := [.data, .pinned], laidTests := true, laidLooks := .later }
def FoldSidesCardSaid : Prop := Claim7.holds Tryd.pinned (.plain (OpenSpec.ofChange foldSidesSpec)) foldSidesCard

/-- THE TIED CARD OF 'abecedarylaw12.ListWrong'. -/
def listWrongCard : Claim7 := { stood := { row := listWrongRow, standIns := [], harness := (true, "67ee7408f3f506f66cbf8ee462a08197b0871fe558c233aa5ac04fba42a26f0f"), looks := false }, kinds := [], alts := [], laidByText := true, laidKinds := [.data, .pinned], laidTests := true, laidLooks := .later }
def ListWrongCardSaid : Prop := Claim7.holds Tryd.pinned (.plain (OpenSpec.ofChange listWrongSpec)) listWrongCard

/-- THE TIED CARD OF 'abecedarylaw12.ListMany'. -/
def listManyCard : Claim7 := { stood := { row := listManyRow, standIns := [], harness := (true, "67ee7408f3f506f66cbf8ee462a08197b0871fe558c233aa5ac04fba42a26f0f"), looks := false }, kinds := [], alts := [], laidByText := true, laidKinds := [.data, .pinned], laidTests := true, laidLooks := .later }
def ListManyCardSaid : Prop := Claim7.holds Tryd.pinned (.plain (OpenSpec.ofChange listManySpec)) listManyCard

/-- THE TIED CARD OF 'abecedarylaw12.ListLines'. -/
def listLinesCard : Claim7 := { stood := { row := listLinesRow, standIns := [], harness := (true, "67ee7408f3f506f66cbf8ee462a08197b0871fe558c233aa5ac04fba42a26f0f"), looks := false }, kinds := [], alts := [], laidByText := true, laidKinds := [.data, .pinned], laidTests := true, laidLooks := .later }
def ListLinesCardSaid : Prop := Claim7.holds Tryd.pinned (.plain (OpenSpec.ofChange listLinesSpec)) listLinesCard

/-- THE TIED CARD OF 'abecedarylaw12.ListAll'. -/
def listAllCard : Claim7 := { stood := { row := listAllRow, standIns := [], harness := (true, "67ee7408f3f506f66cbf8ee462a08197b0871fe558c233aa5ac04fba42a26f0f"), looks := false }, kinds := [], alts := [], laidByText := true, laidKinds := [.data, .pinned], laidTests := true, laidLooks := .later }
def ListAllCardSaid : Prop := Claim7.holds Tryd.pinned (.plain (OpenSpec.ofChange listAllSpec)) listAllCard

/-- THE TIED CARD OF 'abecedarylaw12.ListBack'. -/
def listBackCard : Claim7 := { stood := { row := listBackRow, standIns := [], harness := (true, "67ee7408f3f506f66cbf8ee462a08197b0871fe558c233aa5ac04fba42a26f0f"), looks := false }, kinds := [], alts := [], laidByText := true, laidKinds := [.data, .pinned], laidTests := true, laidLooks := .later }
def ListBackCardSaid : Prop := Claim7.holds Tryd.pinned (.plain (OpenSpec.ofChange listBackSpec)) listBackCard

/-- THE SECOND FORM's CARD OF 'abecedarylaw14.FoldTwice'. -/
def foldTwiceUptoCard : Claim7 := { stood := { row := foldTwiceUptoRow, standIns := [], harness := (true, "67ee7408f3f506f66cbf8ee462a08197b0871fe558c233aa5ac04fba42a26f0f"), looks := false }, kinds := [], alts := [], laidByText := true, laidKinds := [.data, .pinned], laidTests := true, laidLooks := .later }
def FoldTwiceUptoCardSaid : Prop := Claim7.holds Tryd.pinned (.plain (OpenSpec.upto foldTwiceSpec)) foldTwiceUptoCard

/-- THE SECOND FORM's CARD OF 'abecedarylaw14.FoldShapes'. -/
def foldShapesUptoCard : Claim7 := { stood := { row := foldShapesUptoRow, standIns := [], harness := (true, "67ee7408f3f506f66cbf8ee462a08197b0871fe558c233aa5ac04fba42a26f0f"), looks := false }, kinds := [], alts := [], laidByText := true, laidKinds := [.data, .pinned], laidTests := true, laidLooks := .later }
def FoldShapesUptoCardSaid : Prop := Claim7.holds Tryd.pinned (.plain (OpenSpec.upto foldShapesSpec)) foldShapesUptoCard

/-- THE SECOND FORM's CARD OF 'abecedarylaw14.FoldPairs'. -/
def foldPairsUptoCard : Claim7 := { stood := { row := foldPairsUptoRow, standIns := [], harness := (true, "67ee7408f3f506f66cbf8ee462a08197b0871fe558c233aa5ac04fba42a26f0f"), looks := false }, kinds := [], alts := [], laidByText := true, laidKinds := [.data, .pinned], laidTests := true, laidLooks := .later }
def FoldPairsUptoCardSaid : Prop := Claim7.holds Tryd.pinned (.plain (OpenSpec.upto foldPairsSpec)) foldPairsUptoCard

/-- THE SECOND FORM's CARD OF 'abecedarylaw14.FoldSides'. -/
def foldSidesUptoCard : Claim7 := { stood := { row := foldSidesUptoRow, standIns := [], harness := (true, "67ee7408f3f506f66cbf8ee462a08197b0871fe558c233aa5ac04fba42a26f0f"), looks := false }, kinds := [], alts := [], laidByText := true, laidKinds := [.data, .pinned], laidTests := true, laidLooks := .later }
def FoldSidesUptoCardSaid : Prop := Claim7.holds Tryd.pinned (.plain (OpenSpec.upto foldSidesSpec)) foldSidesUptoCard

/-- THE SECOND FORM's CARD OF 'abecedarylaw12.ListWrong'. -/
def listWrongUptoCard : Claim7 := { stood := { row := listWrongUptoRow, standIns := [], harness := (true, "67ee7408f3f506f66cbf8ee462a08197b0871fe558c233aa5ac04fba42a26f0f"), looks := false }, kinds := [], alts := [], laidByText := true, laidKinds := [.data, .pinned], laidTests := true, laidLooks := .later }
def ListWrongUptoCardSaid : Prop := Claim7.holds Tryd.pinned (.plain (OpenSpec.upto listWrongSpec)) listWrongUptoCard

/-- THE SECOND FORM's CARD OF 'abecedarylaw12.ListMany'. -/
def listManyUptoCard : Claim7 := { stood := { row := listManyUptoRow, standIns := [], harness := (true, "67ee7408f3f506f66cbf8ee462a08197b0871fe558c233aa5ac04fba42a26f0f"), looks := false }, kinds := [], alts := [], laidByText := true, laidKinds := [.data, .pinned], laidTests := true, laidLooks := .later }
def ListManyUptoCardSaid : Prop := Claim7.holds Tryd.pinned (.plain (OpenSpec.upto listManySpec)) listManyUptoCard

/-- THE SECOND FORM's CARD OF 'abecedarylaw12.ListLines'. -/
def listLinesUptoCard : Claim7 := { stood := { row := listLinesUptoRow, standIns := [], harness := (true, "67ee7408f3f506f66cbf8ee462a08197b0871fe558c233aa5ac04fba42a26f0f"), looks := false }, kinds := [], alts := [], laidByText := true, laidKinds := [.data, .pinned], laidTests := true, laidLooks := .later }
def ListLinesUptoCardSaid : Prop := Claim7.holds Tryd.pinned (.plain (OpenSpec.upto listLinesSpec)) listLinesUptoCard

/-- THE SECOND FORM's CARD OF 'abecedarylaw12.ListAll'. -/
def listAllUptoCard : Claim7 := { stood := { row := listAllUptoRow, standIns := [], harness := (true, "67ee7408f3f506f66cbf8ee462a08197b0871fe558c233aa5ac04fba42a26f0f"), looks := false }, kinds := [], alts := [], laidByText := true, laidKinds := [.data, .pinned], laidTests := true, laidLooks := .later }
def ListAllUptoCardSaid : Prop := Claim7.holds Tryd.pinned (.plain (OpenSpec.upto listAllSpec)) listAllUptoCard

/-- THE SECOND FORM's CARD OF 'abecedarylaw12.ListBack'. -/
def listBackUptoCard : Claim7 := { stood := { row := listBackUptoRow, standIns := [], harness := (true, "67ee7408f3f506f66cbf8ee462a08197b0871fe558c233aa5ac04fba42a26f0f"), looks := false }, kinds := [], alts := [], laidByText := true, laidKinds := [.data, .pinned], laidTests := true, laidLooks := .later }
def ListBackUptoCardSaid : Prop := Claim7.holds Tryd.pinned (.plain (OpenSpec.upto listBackSpec)) listBackUptoCard
end Rows
end Go.Proofs.YtmpckoincdkeeaaDoor
