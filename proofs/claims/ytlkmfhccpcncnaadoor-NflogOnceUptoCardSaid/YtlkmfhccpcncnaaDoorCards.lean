/-
  DERIVED. GIVEN WITH THE SEED: THE CARDS: each row of YtlkmfhccpcncnaaDoorRows.lean that lists a variable, with what it lists TIED to the program's text (the seventh form; the later family's looks); each row that meets fmt, with fmt's text TOLD by the authors' own Lean function (tested against real Go, not proved from fmt's source: count such statements apart). THE CARD IS WHAT COUNTS. Prove the row's statement (the work); the ties are given (YtlkmfhccpcncnaaDoorTie.lean); close each card by the builder's one call (the guide's Derived/Test/ToyasCard.lean, 'card_holds'). Laid BY PROGRAM, IN A SANDBOX (cutbox-door.mjs). By AI agents, Wed Nov 11 2026. No macro, syntax, notation, axiom, sorry.
-/
import Derived.Test.YtlkmfhccpcncnaaDoorRows
import GoSem.ClaimSeven
namespace Go.Proofs.YtlkmfhccpcncnaaDoor
namespace Rows

/-- THE TIED CARD OF 'tocsinlaw26.NflogApart'. -/
def nflogApartCard : Claim7 := { stood := { row := nflogApartRow, standIns := [], harness := (true, "5e0a667d1f12539edabb024a479172df4ca10d101977826dfb67595ad1c13538"), looks := false }, kinds := [], alts := [], laidByText := true, laidKinds := [.data, .pinned], laidTests := true, laidLooks := .later }
def NflogApartCardSaid : Prop := Claim7.holds Tryd.pinned (.plain (OpenSpec.ofChange nflogApartSpec)) nflogApartCard

/-- THE TIED CARD OF 'tocsinlaw26.NflogFull'. -/
def nflogFullCard : Claim7 := { stood := { row := nflogFullRow, standIns := [], harness := (true, "5e0a667d1f12539edabb024a479172df4ca10d101977826dfb67595ad1c13538"), looks := false }, kinds := [], alts := [], laidByText := true, laidKinds := [.data, .pinned], laidTests := true, laidLooks := .later }
def NflogFullCardSaid : Prop := Claim7.holds Tryd.pinned (.plain (OpenSpec.ofChange nflogFullSpec)) nflogFullCard

/-- THE TIED CARD OF 'tocsinlaw26.NflogPlays'. -/
def nflogPlaysCard : Claim7 := { stood := { row := nflogPlaysRow, standIns := [], harness := (true, "5e0a667d1f12539edabb024a479172df4ca10d101977826dfb67595ad1c13538"), looks := false }, kinds := [], alts := [], laidByText := true, laidKinds := [.data, .pinned], laidTests := true, laidLooks := .later }
def NflogPlaysCardSaid : Prop := Claim7.holds Tryd.pinned (.plain (OpenSpec.ofChange nflogPlaysSpec)) nflogPlaysCard

/-- THE TIED CARD OF 'tocsinlaw26.NflogNil'. -/
def nflogNilCard : Claim7 := { stood := { row := nflogNilRow, standIns := [], harness := (true, "5e0a667d1f12539edabb024a479172df4ca10d101977826dfb67595ad1c13538"), looks := false }, kinds := [], alts := [], laidByText := true, laidKinds := [.data, .pinned], laidTests := true, laidLooks := .later }
def NflogNilCardSaid : Prop := Claim7.holds Tryd.pinned (.plain (OpenSpec.ofChange nflogNilSpec)) nflogNilCard

/-- THE TIED CARD OF 'tocsinlaw26.NflogRecords'. -/
def nflogRecordsCard : Claim7 := { stood := { row := nflogRecordsRow, standIns := [], harness := (true, "5e0a667d1f12539edabb024a479172df4ca10d101977826dfb67595ad1c13538"), looks := false }, kinds := [], alts := [], laidByText := true, laidKinds := [.data, .pinned], laidTests := true, laidLooks := .later }
def NflogRecordsCardSaid : Prop := Claim7.holds Tryd.pinned (.plain (OpenSpec.ofChange nflogRecordsSpec)) nflogRecordsCard

/-- THE TIED CARD OF 'tocsinlaw26.NflogNeeds'. -/
def nflogNeedsCard : Claim7 := { stood := { row := nflogNeedsRow, standIns := [], harness := (true, "5e0a667d1f12539edabb024a479172df4ca10d101977826dfb67595ad1c13538"), looks := false }, kinds := [], alts := [], laidByText := true, laidKinds := [.data, .pinned], laidTests := true, laidLooks := .later }
def NflogNeedsCardSaid : Prop := Claim7.holds Tryd.pinned (.plain (OpenSpec.ofChange nflogNeedsSpec)) nflogNeedsCard

/-- THE TIED CARD OF 'tocsinlaw26.NflogOnce'. -/
def nflogOnceCard : Claim7 := { stood := { row := nflogOnceRow, standIns := [], harness := (true, "5e0a667d1f12539edabb024a479172df4ca10d101977826dfb67595ad1c13538"), looks := false }, kinds := [], alts := [], laidByText := true, laidKinds := [.data, .pinned], laidTests := true, laidLooks := .later }
def NflogOnceCardSaid : Prop := Claim7.holds Tryd.pinned (.plain (OpenSpec.ofChange nflogOnceSpec)) nflogOnceCard

/-- THE SECOND FORM's CARD OF 'tocsinlaw26.NflogApart'. -/
def nflogApartUptoCard : Claim7 := { stood := { row := nflogApartUptoRow, standIns := [], harness := (true, "5e0a667d1f12539edabb024a479172df4ca10d101977826dfb67595ad1c13538"), looks := false }, kinds := [], alts := [], laidByText := true, laidKinds := [.data, .pinned], laidTests := true, laidLooks := .later }
def NflogApartUptoCardSaid : Prop := Claim7.holds Tryd.pinned (.plain (OpenSpec.upto nflogApartSpec)) nflogApartUptoCard

/-- THE SECOND FORM's CARD OF 'tocsinlaw26.NflogFull'. -/
def nflogFullUptoCard : Claim7 := { stood := { row := nflogFullUptoRow, standIns := [], harness := (true, "5e0a667d1f12539edabb024a479172df4ca10d101977826dfb67595ad1c13538"), looks := false }, kinds := [], alts := [], laidByText := true, laidKinds := [.data, .pinned], laidTests := true, laidLooks := .later }
def NflogFullUptoCardSaid : Prop := Claim7.holds Tryd.pinned (.plain (OpenSpec.upto nflogFullSpec)) nflogFullUptoCard

/-- THE SECOND FORM's CARD OF 'tocsinlaw26.NflogPlays'. -/
def nflogPlaysUptoCard : Claim7 := { stood := { row := nflogPlaysUptoRow, standIns := [], harness := (true, "5e0a667d1f12539edabb024a479172df4ca10d101977826dfb67595ad1c13538"), looks := false }, kinds := [], alts := [], laidByText := true, laidKinds := [.data, .pinned], laidTests := true, laidLooks := .later }
def NflogPlaysUptoCardSaid : Prop := Claim7.holds Tryd.pinned (.plain (OpenSpec.upto nflogPlaysSpec)) nflogPlaysUptoCard

/-- THE SECOND FORM's CARD OF 'tocsinlaw26.NflogNil'. -/
def nflogNilUptoCard : Claim7 := { stood := { row := nflogNilUptoRow, standIns := [], harness := (true, "5e0a667d1f12539edabb024a479172df4ca10d101977826dfb67595ad1c13538"), looks := false }, kinds := [], alts := [], laidByText := true, laidKinds := [.data, .pinned], laidTests := true, laidLooks := .later }
def NflogNilUptoCardSaid : Prop := Claim7.holds Tryd.pinned (.plain (OpenSpec.upto nflogNilSpec)) nflogNilUptoCard

/-- THE SECOND FORM's CARD OF 'tocsinlaw26.NflogRecords'. -/
def nflogRecordsUptoCard : Claim7 := { stood := { row := nflogRecordsUptoRow, standIns := [], harness := (true, "5e0a667d1f12539edabb024a479172df4ca10d101977826dfb67595ad1c13538"), looks := false }, kinds := [], alts := [], laidByText := true, laidKinds := [.data, .pinned], laidTests := true, laidLooks := .later }
def NflogRecordsUptoCardSaid : Prop := Claim7.holds Tryd.pinned (.plain (OpenSpec.upto nflogRecordsSpec)) nflogRecordsUptoCard

/-- THE SECOND FORM's CARD OF 'tocsinlaw26.NflogNeeds'. -/
def nflogNeedsUptoCard : Claim7 := { stood := { row := nflogNeedsUptoRow, standIns := [], harness := (true, "5e0a667d1f12539edabb024a479172df4ca10d101977826dfb67595ad1c13538"), looks := false }, kinds := [], alts := [], laidByText := true, laidKinds := [.data, .pinned], laidTests := true, laidLooks := .later }
def NflogNeedsUptoCardSaid : Prop := Claim7.holds Tryd.pinned (.plain (OpenSpec.upto nflogNeedsSpec)) nflogNeedsUptoCard

/-- THE SECOND FORM's CARD OF 'tocsinlaw26.NflogOnce'. -/
def nflogOnceUptoCard : Claim7 := { stood := { row := nflogOnceUptoRow, standIns := [], harness := (true, "5e0a667d1f12539edabb024a479172df4ca10d101977826dfb67595ad1c13538"), looks := false }, kinds := [], alts := [], laidByText := true, laidKinds := [.data, .pinned], laidTests := true, laidLooks := .later }
def NflogOnceUptoCardSaid : Prop := Claim7.holds Tryd.pinned (.plain (OpenSpec.upto nflogOnceSpec)) nflogOnceUptoCard
end Rows
end Go.Proofs.YtlkmfhccpcncnaaDoor
