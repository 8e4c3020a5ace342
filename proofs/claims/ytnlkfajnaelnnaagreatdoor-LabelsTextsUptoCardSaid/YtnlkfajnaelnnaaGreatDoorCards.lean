/-
  DERIVED. GIVEN WITH THE SEED: THE CARDS: each row of YtnlkfajnaelnnaaGreatDoorRows.lean that lists a variable, with what it lists TIED to the program's text (the seventh form; the later family's looks); each row that meets fmt, with fmt's text TOLD by the authors' own Lean function (tested against real Go, not proved from fmt's source: count such statements apart). THE CARD IS WHAT COUNTS. Prove the row's statement (the work); the ties are given (YtnlkfajnaelnnaaGreatDoorTie.lean); close each card by the builder's one call (the guide's Derived/Test/ToyasCard.lean, 'card_holds'). Laid BY PROGRAM, IN A SANDBOX (cutbox-door.mjs). By AI agents, Wed Nov 11 2026. No macro, syntax, notation, axiom, sorry.
-/
import Derived.Test.YtnlkfajnaelnnaaGreatDoorRows
import GoSem.ClaimSeven
namespace Go.Proofs.YtnlkfajnaelnnaaGreatDoor
namespace Rows

/-- THE TIED CARD OF 'tocsinlaw04.LabelsRights'. -/
def labelsRightsCard : Claim7 := { stood := { row := labelsRightsRow, standIns := [], harness := (true, "e6462b8e6952b5a5b5f937e19f3eb9771592eca5d60dd684e616cc487b4a4e3e"), looks := true }, kinds := [], alts := [], laidByText := true, laidKinds := [.data, .pinned], laidTests := true, laidLooks := .later }
def LabelsRightsCardSaid : Prop := Claim7.holds Tryz.pinned (.plain (OpenSpec.ofChange labelsRightsSpec)) labelsRightsCard

/-- THE TIED CARD OF 'tocsinlaw04.LabelsTexts'. -/
def labelsTextsCard : Claim7 := { stood := { row := labelsTextsRow, standIns := [], harness := (true, "e6462b8e6952b5a5b5f937e19f3eb9771592eca5d60dd684e616cc487b4a4e3e"), looks := true }, kinds := [], alts := [], laidByText := true, laidKinds := [.data, .pinned], laidTests := true, laidLooks := .later }
def LabelsTextsCardSaid : Prop := Claim7.holds Tryz.pinned (.plain (OpenSpec.ofChange labelsTextsSpec)) labelsTextsCard

/-- THE TIED CARD OF 'tocsinlaw04.LabelsMakes'. -/
def labelsMakesCard : Claim7 := { stood := { row := labelsMakesRow, standIns := [], harness := (true, "e6462b8e6952b5a5b5f937e19f3eb9771592eca5d60dd684e616cc487b4a4e3e"), looks := true }, kinds := [], alts := [], laidByText := true, laidKinds := [.data, .pinned], laidTests := true, laidLooks := .later }
def LabelsMakesCardSaid : Prop := Claim7.holds Tryz.pinned (.plain (OpenSpec.ofChange labelsMakesSpec)) labelsMakesCard

/-- THE TIED CARD OF 'tocsinlaw04.LabelsOrder'. -/
def labelsOrderCard : Claim7 := { stood := { row := labelsOrderRow, standIns := [], harness := (true, "e6462b8e6952b5a5b5f937e19f3eb9771592eca5d60dd684e616cc487b4a4e3e"), looks := true }, kinds := [], alts := [], laidByText := true, laidKinds := [.data, .pinned], laidTests := true, laidLooks := .later }
def LabelsOrderCardSaid : Prop := Claim7.holds Tryz.pinned (.plain (OpenSpec.ofChange labelsOrderSpec)) labelsOrderCard

/-- THE TIED CARD OF 'tocsinlaw04.LabelsTurns'. -/
def labelsTurnsCard : Claim7 := { stood := { row := labelsTurnsRow, standIns := [], harness := (true, "e6462b8e6952b5a5b5f937e19f3eb9771592eca5d60dd684e616cc487b4a4e3e"), looks := true }, kinds := [], alts := [], laidByText := true, laidKinds := [.data, .pinned], laidTests := true, laidLooks := .later }
def LabelsTurnsCardSaid : Prop := Claim7.holds Tryz.pinned (.plain (OpenSpec.ofChange labelsTurnsSpec)) labelsTurnsCard

/-- THE TIED CARD OF 'tocsinlaw04.LabelsAlgebra'. -/
def labelsAlgebraCard : Claim7 := { stood := { row := labelsAlgebraRow, standIns := [], harness := (true, "e6462b8e6952b5a5b5f937e19f3eb9771592eca5d60dd684e616cc487b4a4e3e"), looks := true }, kinds := [], alts := [], laidByText := true, laidKinds := [.data, .pinned], laidTests := true, laidLooks := .later }
def LabelsAlgebraCardSaid : Prop := Claim7.holds Tryz.pinned (.plain (OpenSpec.ofChange labelsAlgebraSpec)) labelsAlgebraCard

/-- THE TIED CARD OF 'tocsinlaw04.LabelsBytes'. -/
def labelsBytesCard : Claim7 := { stood := { row := labelsBytesRow, standIns := [], harness := (true, "e6462b8e6952b5a5b5f937e19f3eb9771592eca5d60dd684e616cc487b4a4e3e"), looks := true }, kinds := [], alts := [], laidByText := true, laidKinds := [.data, .pinned], laidTests := true, laidLooks := .later }
def LabelsBytesCardSaid : Prop := Claim7.holds Tryz.pinned (.plain (OpenSpec.ofChange labelsBytesSpec)) labelsBytesCard

/-- THE TIED CARD OF 'tocsinlaw04.LabelsBack'. -/
def labelsBackCard : Claim7 := { stood := { row := labelsBackRow, standIns := [], harness := (true, "e6462b8e6952b5a5b5f937e19f3eb9771592eca5d60dd684e616cc487b4a4e3e"), looks := true }, kinds := [], alts := [], laidByText := true, laidKinds := [.data, .pinned], laidTests := true, laidLooks := .later }
def LabelsBackCardSaid : Prop := Claim7.holds Tryz.pinned (.plain (OpenSpec.ofChange labelsBackSpec)) labelsBackCard

/-- THE TIED CARD OF 'tocsinlaw04.LabelsFull'. -/
def labelsFullCard : Claim7 := { stood := { row := labelsFullRow, standIns := [], harness := (true, "e6462b8e6952b5a5b5f937e19f3eb9771592eca5d60dd684e616cc487b4a4e3e"), looks := true }, kinds := [], alts := [], laidByText := true, laidKinds := [.data, .pinned], laidTests := true, laidLooks := .later }
def LabelsFullCardSaid : Prop := Claim7.holds Tryz.pinned (.plain (OpenSpec.ofChange labelsFullSpec)) labelsFullCard

/-- THE TIED CARD OF 'tocsinlaw04.LabelsNil'. -/
def labelsNilCard : Claim7 := { stood := { row := labelsNilRow, standIns := [], harness := (true, "e6462b8e6952b5a5b5f937e19f3eb9771592eca5d60dd684e616cc487b4a4e3e"), looks := true }, kinds := [], alts := [], laidByText := true, laidKinds := [.data, .pinned], laidTests := true, laidLooks := .later }
def LabelsNilCardSaid : Prop := Claim7.holds Tryz.pinned (.plain (OpenSpec.ofChange labelsNilSpec)) labelsNilCard

/-- THE TIED CARD OF 'tocsinlaw04.LabelsIds'. -/
def labelsIdsCard : Claim7 := { stood := { row := labelsIdsRow, standIns := [], harness := (true, "e6462b8e6952b5a5b5f937e19f3eb9771592eca5d60dd684e616cc487b4a4e3e"), looks := true }, kinds := [], alts := [], laidByText := true, laidKinds := [.data, .pinned], laidTests := true, laidLooks := .later }
def LabelsIdsCardSaid : Prop := Claim7.holds Tryz.pinned (.plain (OpenSpec.ofChange labelsIdsSpec)) labelsIdsCard

/-- THE SECOND FORM's CARD OF 'tocsinlaw04.LabelsRights'. -/
def labelsRightsUptoCard : Claim7 := { stood := { row := labelsRightsUptoRow, standIns := [], harness := (true, "e6462b8e6952b5a5b5f937e19f3eb9771592eca5d60dd684e616cc487b4a4e3e"), looks := true }, kinds := [], alts := [], laidByText := true, laidKinds := [.data, .pinned], laidTests := true, laidLooks := .later }
def LabelsRightsUptoCardSaid : Prop := Claim7.holds Tryz.pinned (.plain (OpenSpec.upto labelsRightsSpec)) labelsRightsUptoCard

/-- THE SECOND FORM's CARD OF 'tocsinlaw04.LabelsTexts'. -/
def labelsTextsUptoCard : Claim7 := { stood := { row := labelsTextsUptoRow, standIns := [], harness := (true, "e6462b8e6952b5a5b5f937e19f3eb9771592eca5d60dd684e616cc487b4a4e3e"), looks := true }, kinds := [], alts := [], laidByText := true, laidKinds := [.data, .pinned], laidTests := true, laidLooks := .later }
def LabelsTextsUptoCardSaid : Prop := Claim7.holds Tryz.pinned (.plain (OpenSpec.upto labelsTextsSpec)) labelsTextsUptoCard

/-- THE SECOND FORM's CARD OF 'tocsinlaw04.LabelsMakes'. -/
def labelsMakesUptoCard : Claim7 := { stood := { row := labelsMakesUptoRow, standIns := [], harness := (true, "e6462b8e6952b5a5b5f937e19f3eb9771592eca5d60dd684e616cc487b4a4e3e"), looks := true }, kinds := [], alts := [], laidByText := true, laidKinds := [.data, .pinned], laidTests := true, laidLooks := .later }
def LabelsMakesUptoCardSaid : Prop := Claim7.holds Tryz.pinned (.plain (OpenSpec.upto labelsMakesSpec)) labelsMakesUptoCard

/-- THE SECOND FORM's CARD OF 'tocsinlaw04.LabelsOrder'. -/
def labelsOrderUptoCard : Claim7 := { stood := { row := labelsOrderUptoRow, standIns := [], harness := (true, "e6462b8e6952b5a5b5f937e19f3eb9771592eca5d60dd684e616cc487b4a4e3e"), looks := true }, kinds := [], alts := [], laidByText := true, laidKinds := [.data, .pinned], laidTests := true, laidLooks := .later }
def LabelsOrderUptoCardSaid : Prop := Claim7.holds Tryz.pinned (.plain (OpenSpec.upto labelsOrderSpec)) labelsOrderUptoCard

/-- THE SECOND FORM's CARD OF 'tocsinlaw04.LabelsTurns'. -/
def labelsTurnsUptoCard : Claim7 := { stood := { row := labelsTurnsUptoRow, standIns := [], harness := (true, "e6462b8e6952b5a5b5f937e19f3eb9771592eca5d60dd684e616cc487b4a4e3e"), looks := true }, kinds := [], alts := [], laidByText := true, laidKinds := [.data, .pinned], laidTests := true, laidLooks := .later }
def LabelsTurnsUptoCardSaid : Prop := Claim7.holds Tryz.pinned (.plain (OpenSpec.upto labelsTurnsSpec)) labelsTurnsUptoCard

/-- THE SECOND FORM's CARD OF 'tocsinlaw04.LabelsAlgebra'. -/
def labelsAlgebraUptoCard : Claim7 := { stood := { row := labelsAlgebraUptoRow, standIns := [], harness := (true, "e6462b8e6952b5a5b5f937e19f3eb9771592eca5d60dd684e616cc487b4a4e3e"), looks := true }, kinds := [], alts := [], laidByText := true, laidKinds := [.data, .pinned], laidTests := true, laidLooks := .later }
def LabelsAlgebraUptoCardSaid : Prop := Claim7.holds Tryz.pinned (.plain (OpenSpec.upto labelsAlgebraSpec)) labelsAlgebraUptoCard

/-- THE SECOND FORM's CARD OF 'tocsinlaw04.LabelsBytes'. -/
def labelsBytesUptoCard : Claim7 := { stood := { row := labelsBytesUptoRow, standIns := [], harness := (true, "e6462b8e6952b5a5b5f937e19f3eb9771592eca5d60dd684e616cc487b4a4e3e"), looks := true }, kinds := [], alts := [], laidByText := true, laidKinds := [.data, .pinned], laidTests := true, laidLooks := .later }
def LabelsBytesUptoCardSaid : Prop := Claim7.holds Tryz.pinned (.plain (OpenSpec.upto labelsBytesSpec)) labelsBytesUptoCard

/-- THE SECOND FORM's CARD OF 'tocsinlaw04.LabelsBack'. -/
def labelsBackUptoCard : Claim7 := { stood := { row := labelsBackUptoRow, standIns := [], harness := (true, "e6462b8e6952b5a5b5f937e19f3eb9771592eca5d60dd684e616cc487b4a4e3e"), looks := true }, kinds := [], alts := [], laidByText := true, laidKinds := [.data, .pinned], laidTests := true, laidLooks := .later }
def LabelsBackUptoCardSaid : Prop := Claim7.holds Tryz.pinned (.plain (OpenSpec.upto labelsBackSpec)) labelsBackUptoCard

/-- THE SECOND FORM's CARD OF 'tocsinlaw04.LabelsFull'. -/
def labelsFullUptoCard : Claim7 := { stood := { row := labelsFullUptoRow, standIns := [], harness := (true, "e6462b8e6952b5a5b5f937e19f3eb9771592eca5d60dd684e616cc487b4a4e3e"), looks := true }, kinds := [], alts := [], laidByText := true, laidKinds := [.data, .pinned], laidTests := true, laidLooks := .later }
def LabelsFullUptoCardSaid : Prop := Claim7.holds Tryz.pinned (.plain (OpenSpec.upto labelsFullSpec)) labelsFullUptoCard

/-- THE SECOND FORM's CARD OF 'tocsinlaw04.LabelsNil'. -/
def labelsNilUptoCard : Claim7 := { stood := { row := labelsNilUptoRow, standIns := [], harness := (true, "e6462b8e6952b5a5b5f937e19f3eb9771592eca5d60dd684e616cc487b4a4e3e"), looks := true }, kinds := [], alts := [], laidByText := true, laidKinds := [.data, .pinned], laidTests := true, laidLooks := .later }
def LabelsNilUptoCardSaid : Prop := Claim7.holds Tryz.pinned (.plain (OpenSpec.upto labelsNilSpec)) labelsNilUptoCard

/-- THE SECOND FORM's CARD OF 'tocsinlaw04.LabelsIds'. -/
def labelsIdsUptoCard : Claim7 := { stood := { row := labelsIdsUptoRow, standIns := [], harness := (true, "e6462b8e6952b5a5b5f937e19f3eb9771592eca5d60dd684e616cc487b4a4e3e"), looks := true }, kinds := [], alts := [], laidByText := true, laidKinds := [.data, .pinned], laidTests := true, laidLooks := .later }
def LabelsIdsUptoCardSaid : Prop := Claim7.holds Tryz.pinned (.plain (OpenSpec.upto labelsIdsSpec)) labelsIdsUptoCard
end Rows
end Go.Proofs.YtnlkfajnaelnnaaGreatDoor
