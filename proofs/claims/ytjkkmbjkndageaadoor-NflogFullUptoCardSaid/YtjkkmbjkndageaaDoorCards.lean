/-
  DERIVED. GIVEN WITH THE SEED: THE CARDS: each row of YtjkkmbjkndageaaDoorRows.lean that lists a variable, with what it lists TIED to the program's text (the seventh form; the later family's looks); each row that meets fmt, with fmt's text TOLD by the authors' own Lean function (tested against real Go, not proved from fmt's source: count such statements apart). THE CARD IS WHAT COUNTS. Prove the row's statement (the work); the ties are given (YtjkkmbjkndageaaDoorTie.lean); close each card by the builder's one call (the guide's Derived/Test/ToyasCard.lean, 'card_holds'). Laid BY PROGRAM, IN A SANDBOX (cutbox-door.mjs). By AI agents, Wed Nov 11 2026. No macro, syntax, notation, axiom, sorry.
-/
import Derived.Test.YtjkkmbjkndageaaDoorRows
import GoSem.ClaimSeven
namespace Go.Proofs.YtjkkmbjkndageaaDoor
namespace Rows

/-- THE TIED CARD OF 'tocsinlaw26.NflogFull'. -/
def nflogFullCard : Claim7 := { stood := { row := nflogFullRow, standIns := [], harness := (true, "3f86901e97e38fb8e4c40b0007afe955946b623e0de83b0941e1cfbfb17de582"), looks := false }, kinds := [], alts := [], laidByText := true, laidKinds := [.data, .pinned], laidTests := true, laidLooks := .later }
def NflogFullCardSaid : Prop := Claim7.holds Tryd.pinned (.plain (OpenSpec.ofChange nflogFullSpec)) nflogFullCard

/-- THE SECOND FORM's CARD OF 'tocsinlaw26.NflogFull'. -/
def nflogFullUptoCard : Claim7 := { stood := { row := nflogFullUptoRow, standIns := [], harness := (true, "3f86901e97e38fb8e4c40b0007afe955946b623e0de83b0941e1cfbfb17de582"), looks := false }, kinds := [], alts := [], laidByText := true, laidKinds := [.data, .pinned], laidTests := true, laidLooks := .later }
def NflogFullUptoCardSaid : Prop := Claim7.holds Tryd.pinned (.plain (OpenSpec.upto nflogFullSpec)) nflogFullUptoCard
end Rows
end Go.Proofs.YtjkkmbjkndageaaDoor
