/-
  DERIVED. GIVEN WITH THE SEED: THE CARDS: each row of YtkjkkimnjpodiaaGreatDoorRows.lean that lists a variable, with what it lists TIED to the program's text (the seventh form; the later family's looks); each row that meets fmt, with fmt's text TOLD by the authors' own Lean function (tested against real Go, not proved from fmt's source: count such statements apart). THE CARD IS WHAT COUNTS. Prove the row's statement (the work); the ties are given (YtkjkkimnjpodiaaGreatDoorTie.lean); close each card by the builder's one call (the guide's Derived/Test/ToyasCard.lean, 'card_holds'). Laid BY PROGRAM, IN A SANDBOX (cutbox-door.mjs). By AI agents, Wed Nov 11 2026. No macro, syntax, notation, axiom, sorry.
-/
import Derived.Test.YtkjkkimnjpodiaaGreatDoorRows
import GoSem.ClaimSeven
namespace Go.Proofs.YtkjkkimnjpodiaaGreatDoor
namespace Rows

/-- THE TIED CARD OF 'tocsinlaw15.VecSets'. -/
def vecSetsCard : Claim7 := { stood := { row := vecSetsRow, standIns := [], harness := (true, "bb37abb888145153ec4026743e44ba52739f22bfff6f2e2cd522269694b6fc0e"), looks := false }, kinds := [], alts := [], laidByText := true, laidKinds := [.data, .pinned], laidTests := true, laidLooks := .later }
def VecSetsCardSaid : Prop := Claim7.holds Tryz.pinned (.plain (OpenSpec.ofChange vecSetsSpec)) vecSetsCard

/-- THE TIED CARD OF 'tocsinlaw15.VecTurns'. -/
def vecTurnsCard : Claim7 := { stood := { row := vecTurnsRow, standIns := [], harness := (true, "bb37abb888145153ec4026743e44ba52739f22bfff6f2e2cd522269694b6fc0e"), looks := false }, kinds := [], alts := [], laidByText := true, laidKinds := [.data, .pinned], laidTests := true, laidLooks := .later }
def VecTurnsCardSaid : Prop := Claim7.holds Tryz.pinned (.plain (OpenSpec.ofChange vecTurnsSpec)) vecTurnsCard

/-- THE TIED CARD OF 'tocsinlaw16.AggrOrder'. -/
def aggrOrderCard : Claim7 := { stood := { row := aggrOrderRow, standIns := [], harness := (true, "bb37abb888145153ec4026743e44ba52739f22bfff6f2e2cd522269694b6fc0e"), looks := false }, kinds := [], alts := [], laidByText := true, laidKinds := [.data, .pinned], laidTests := true, laidLooks := .later }
def AggrOrderCardSaid : Prop := Claim7.holds Tryz.pinned (.plain (OpenSpec.ofChange aggrOrderSpec)) aggrOrderCard

/-- THE TIED CARD OF 'tocsinlaw16.AggrBounds'. -/
def aggrBoundsCard : Claim7 := { stood := { row := aggrBoundsRow, standIns := [], harness := (true, "bb37abb888145153ec4026743e44ba52739f22bfff6f2e2cd522269694b6fc0e"), looks := false }, kinds := [], alts := [], laidByText := true, laidKinds := [.data, .pinned], laidTests := true, laidLooks := .later }
def AggrBoundsCardSaid : Prop := Claim7.holds Tryz.pinned (.plain (OpenSpec.ofChange aggrBoundsSpec)) aggrBoundsCard

/-- THE TIED CARD OF 'tocsinlaw16.AggrTop'. -/
def aggrTopCard : Claim7 := { stood := { row := aggrTopRow, standIns := [], harness := (true, "bb37abb888145153ec4026743e44ba52739f22bfff6f2e2cd522269694b6fc0e"), looks := false }, kinds := [], alts := [], laidByText := true, laidKinds := [.data, .pinned], laidTests := true, laidLooks := .later }
def AggrTopCardSaid : Prop := Claim7.holds Tryz.pinned (.plain (OpenSpec.ofChange aggrTopSpec)) aggrTopCard

/-- THE TIED CARD OF 'tocsinlaw16.AggrNumbers'. -/
def aggrNumbersCard : Claim7 := { stood := { row := aggrNumbersRow, standIns := [], harness := (true, "bb37abb888145153ec4026743e44ba52739f22bfff6f2e2cd522269694b6fc0e"), looks := false }, kinds := [], alts := [], laidByText := true, laidKinds := [.data, .pinned], laidTests := true, laidLooks := .later }
def AggrNumbersCardSaid : Prop := Claim7.holds Tryz.pinned (.plain (OpenSpec.ofChange aggrNumbersSpec)) aggrNumbersCard

/-- THE TIED CARD OF 'tocsinlaw16.AggrFolds'. -/
def aggrFoldsCard : Claim7 := { stood := { row := aggrFoldsRow, standIns := [], harness := (true, "bb37abb888145153ec4026743e44ba52739f22bfff6f2e2cd522269694b6fc0e"), looks := false }, kinds := [], alts := [], laidByText := true, laidKinds := [.data, .pinned], laidTests := true, laidLooks := .later }
def AggrFoldsCardSaid : Prop := Claim7.holds Tryz.pinned (.plain (OpenSpec.ofChange aggrFoldsSpec)) aggrFoldsCard

/-- THE TIED CARD OF 'tocsinlaw16.AggrGroups'. -/
def aggrGroupsCard : Claim7 := { stood := { row := aggrGroupsRow, standIns := [], harness := (true, "bb37abb888145153ec4026743e44ba52739f22bfff6f2e2cd522269694b6fc0e"), looks := false }, kinds := [], alts := [], laidByText := true, laidKinds := [.data, .pinned], laidTests := true, laidLooks := .later }
def AggrGroupsCardSaid : Prop := Claim7.holds Tryz.pinned (.plain (OpenSpec.ofChange aggrGroupsSpec)) aggrGroupsCard

/-- THE TIED CARD OF 'tocsinlaw16.AggrGroup'. -/
def aggrGroupCard : Claim7 := { stood := { row := aggrGroupRow, standIns := [], harness := (true, "bb37abb888145153ec4026743e44ba52739f22bfff6f2e2cd522269694b6fc0e"), looks := false }, kinds := [], alts := [], laidByText := true, laidKinds := [.data, .pinned], laidTests := true, laidLooks := .later }
def AggrGroupCardSaid : Prop := Claim7.holds Tryz.pinned (.plain (OpenSpec.ofChange aggrGroupSpec)) aggrGroupCard

/-- THE SECOND FORM's CARD OF 'tocsinlaw15.VecSets'. -/
def vecSetsUptoCard : Claim7 := { stood := { row := vecSetsUptoRow, standIns := [], harness := (true, "bb37abb888145153ec4026743e44ba52739f22bfff6f2e2cd522269694b6fc0e"), looks := false }, kinds := [], alts := [], laidByText := true, laidKinds := [.data, .pinned], laidTests := true, laidLooks := .later }
def VecSetsUptoCardSaid : Prop := Claim7.holds Tryz.pinned (.plain (OpenSpec.upto vecSetsSpec)) vecSetsUptoCard

/-- THE SECOND FORM's CARD OF 'tocsinlaw15.VecTurns'. -/
def vecTurnsUptoCard : Claim7 := { stood := { row := vecTurnsUptoRow, standIns := [], harness := (true, "bb37abb888145153ec4026743e44ba52739f22bfff6f2e2cd522269694b6fc0e"), looks := false }, kinds := [], alts := [], laidByText := true, laidKinds := [.data, .pinned], laidTests := true, laidLooks := .later }
def VecTurnsUptoCardSaid : Prop := Claim7.holds Tryz.pinned (.plain (OpenSpec.upto vecTurnsSpec)) vecTurnsUptoCard

/-- THE SECOND FORM's CARD OF 'tocsinlaw16.AggrOrder'. -/
def aggrOrderUptoCard : Claim7 := { stood := { row := aggrOrderUptoRow, standIns := [], harness := (true, "bb37abb888145153ec4026743e44ba52739f22bfff6f2e2cd522269694b6fc0e"), looks := false }, kinds := [], alts := [], laidByText := true, laidKinds := [.data, .pinned], laidTests := true, laidLooks := .later }
def AggrOrderUptoCardSaid : Prop := Claim7.holds Tryz.pinned (.plain (OpenSpec.upto aggrOrderSpec)) aggrOrderUptoCard

/-- THE SECOND FORM's CARD OF 'tocsinlaw16.AggrBounds'. -/
def aggrBoundsUptoCard : Claim7 := { stood := { row := aggrBoundsUptoRow, standIns := [], harness := (true, "bb37abb888145153ec4026743e44ba52739f22bfff6f2e2cd522269694b6fc0e"), looks := false }, kinds := [], alts := [], laidByText := true, laidKinds := [.data, .pinned], laidTests := true, laidLooks := .later }
def AggrBoundsUptoCardSaid : Prop := Claim7.holds Tryz.pinned (.plain (OpenSpec.upto aggrBoundsSpec)) aggrBoundsUptoCard

/-- THE SECOND FORM's CARD OF 'tocsinlaw16.AggrTop'. -/
def aggrTopUptoCard : Claim7 := { stood := { row := aggrTopUptoRow, standIns := [], harness := (true, "bb37abb888145153ec4026743e44ba52739f22bfff6f2e2cd522269694b6fc0e"), looks := false }, kinds := [], alts := [], laidByText := true, laidKinds := [.data, .pinned], laidTests := true, laidLooks := .later }
def AggrTopUptoCardSaid : Prop := Claim7.holds Tryz.pinned (.plain (OpenSpec.upto aggrTopSpec)) aggrTopUptoCard

/-- THE SECOND FORM's CARD OF 'tocsinlaw16.AggrNumbers'. -/
def aggrNumbersUptoCard : Claim7 := { stood := { row := aggrNumbersUptoRow, standIns := [], harness := (true, "bb37abb888145153ec4026743e44ba52739f22bfff6f2e2cd522269694b6fc0e"), looks := false }, kinds := [], alts := [], laidByText := true, laidKinds := [.data, .pinned], laidTests := true, laidLooks := .later }
def AggrNumbersUptoCardSaid : Prop := Claim7.holds Tryz.pinned (.plain (OpenSpec.upto aggrNumbersSpec)) aggrNumbersUptoCard

/-- THE SECOND FORM's CARD OF 'tocsinlaw16.AggrFolds'. -/
def aggrFoldsUptoCard : Claim7 := { stood := { row := aggrFoldsUptoRow, standIns := [], harness := (true, "bb37abb888145153ec4026743e44ba52739f22bfff6f2e2cd522269694b6fc0e"), looks := false }, kinds := [], alts := [], laidByText := true, laidKinds := [.data, .pinned], laidTests := true, laidLooks := .later }
def AggrFoldsUptoCardSaid : Prop := Claim7.holds Tryz.pinned (.plain (OpenSpec.upto aggrFoldsSpec)) aggrFoldsUptoCard

/-- THE SECOND FORM's CARD OF 'tocsinlaw16.AggrGroups'. -/
def aggrGroupsUptoCard : Claim7 := { stood := { row := aggrGroupsUptoRow, standIns := [], harness := (true, "bb37abb888145153ec4026743e44ba52739f22bfff6f2e2cd522269694b6fc0e"), looks := false }, kinds := [], alts := [], laidByText := true, laidKinds := [.data, .pinned], laidTests := true, laidLooks := .later }
def AggrGroupsUptoCardSaid : Prop := Claim7.holds Tryz.pinned (.plain (OpenSpec.upto aggrGroupsSpec)) aggrGroupsUptoCard

/-- THE SECOND FORM's CARD OF 'tocsinlaw16.AggrGroup'. -/
def aggrGroupUptoCard : Claim7 := { stood := { row := aggrGroupUptoRow, standIns := [], harness := (true, "bb37abb888145153ec4026743e44ba52739f22bfff6f2e2cd522269694b6fc0e"), looks := false }, kinds := [], alts := [], laidByText := true, laidKinds := [.data, .pinned], laidTests := true, laidLooks := .later }
def AggrGroupUptoCardSaid : Prop := Claim7.holds Tryz.pinned (.plain (OpenSpec.upto aggrGroupSpec)) aggrGroupUptoCard
end Rows
end Go.Proofs.YtkjkkimnjpodiaaGreatDoor
