/-
  DERIVED. GIVEN WITH THE SEED: THE CARDS: each row of YtcnnbaneoehilaaDoorRows.lean that lists a variable, with what it lists TIED to the program's text (the seventh form; the later family's looks); each row that meets fmt, with fmt's text TOLD by the authors' own Lean function (tested against real Go, not proved from fmt's source: count such statements apart). THE CARD IS WHAT COUNTS. Prove the row's statement (the work); the ties are given (YtcnnbaneoehilaaDoorTie.lean); close each card by the builder's one call (the guide's Derived/Test/ToyasCard.lean, 'card_holds'). Laid BY PROGRAM, IN A SANDBOX (cutbox-door.mjs). By AI agents, Wed Nov 11 2026. No macro, syntax, notation, axiom, sorry.
-/
import Derived.Test.YtcnnbaneoehilaaDoorRows
import GoSem.ClaimSeven
namespace Go.Proofs.YtcnnbaneoehilaaDoor
namespace Rows

/-- THE TIED CARD OF 'tocsinlaw26.NflogNeeds'. -/
def nflogNeedsCard : Claim7 := { stood := { row := nflogNeedsRow, standIns := [], harness := (true, "643d82927dbc4c4c6122bc4da46c52f8943df502b16608deb1a84cb79148952e"), looks := false }, kinds := [], alts := [], laidByText := true, laidKinds := [.data, .pinned], laidTests := true, laidLooks := .later }
def NflogNeedsCardSaid : Prop := Claim7.holds Tryd.pinned (.plain (OpenSpec.ofChange nflogNeedsSpec)) nflogNeedsCard

/-- THE SECOND FORM's CARD OF 'tocsinlaw26.NflogNeeds'. -/
def nflogNeedsUptoCard : Claim7 := { stood := { row := nflogNeedsUptoRow, standIns := [], harness := (true, "643d82927dbc4c4c6122bc4da46c52f8943df502b16608deb1a84cb79148952e"), looks := false }, kinds := [], alts := [], laidByText := true, laidKinds := [.data, .pinned], laidTests := true, laidLooks := .later }
def NflogNeedsUptoCardSaid : Prop := Claim7.holds Tryd.pinned (.plain (OpenSpec.upto nflogNeedsSpec)) nflogNeedsUptoCard
end Rows
end Go.Proofs.YtcnnbaneoehilaaDoor
