/-
  NARROWER THAN 'FOR EVERY INPUT', by the rows' own cells (each row's printed sentence says how): NflogApart: laid · NflogFull: laid · NflogPlays: laid · NflogNil: laid · NflogRecords: laid · NflogNeeds: laid · NflogOnce: laid.
  DERIVED. THE GIVEN ROWS OF THIS SEAT. 7 by the template 'for every input the law returns true; each argument reads behind the call as it read before'; 0 by the template 'total and deterministic' (their statements: YtlkmfhccpcncnaaDoorTotals.lean).
  GIVEN WITH THE SEED: the statements are not yours to turn. If you find one false, say at which input.
  Laid BY PROGRAM, IN A SANDBOX (cutbox-rows.mjs): the forced cells as the released guide's own fill.sh prints them over the translation b50cf979ea9729cf… (all of the seat's roots in one cut). By AI agents, Wed Nov 11 2026. No macro, syntax, notation, axiom, sorry.
-/
import Derived.Test.YtlkmfhccpcncnaaDoorChecked
import GoSem.PinnedTables
import GoSem.Claim
import GoSem.ClaimJoined
import GoSem.ClaimMapViews
import Derived.JoinedTies
import Derived.KernelRfl
namespace Go.Proofs.YtlkmfhccpcncnaaDoor
/- THE CELL 'sum', in the pinned program and in every row, IS THE sha256 OF THE DUMP (.gsa) THAT YtlkmfhccpcncnaaDoorProg.lean LOADS. Nothing in Lean hashes anything: it is a label: what it is worth is what the hold of that sum in a sandbox is worth. -/
noncomputable def Tryd.pinned : Pinned := { name := "ytlkmfhccpcncnaadoor", sum := "b50cf979ea9729cf60f92ce489b36e9f3d62dee346d416d20503ab4aa8bb9b21", checked := Tryd.checked }
namespace Rows
def none {H : Type} : Left H := { results := [], args := [] }

/- WHAT THE LISTED PACKAGE-LEVEL VARIABLES READ AS WHEN THE CALL BEGINS. Each datum BY PROGRAM (the guide's laid-datum.mjs) off the statement by which the dump's own 'gosem.cut.vars' lays the variable. In a bare row this is a premise. The card (YtlkmfhccpcncnaaDoorCards.lean) ties it to the program's text. -/
def laid_unicode_utf8_acceptRanges {H : Type} : DataW H := .agg [.agg [.lit (.int .u8 128), .lit (.int .u8 191)], .agg [.lit (.int .u8 160), .lit (.int .u8 191)], .agg [.lit (.int .u8 128), .lit (.int .u8 159)], .agg [.lit (.int .u8 144), .lit (.int .u8 191)], .agg [.lit (.int .u8 128), .lit (.int .u8 143)], .agg [.lit (.int .u8 0), .lit (.int .u8 0)], .agg [.lit (.int .u8 0), .lit (.int .u8 0)], .agg [.lit (.int .u8 0), .lit (.int .u8 0)], .agg [.lit (.int .u8 0), .lit (.int .u8 0)], .agg [.lit (.int .u8 0), .lit (.int .u8 0)], .agg [.lit (.int .u8 0), .lit (.int .u8 0)], .agg [.lit (.int .u8 0), .lit (.int .u8 0)], .agg [.lit (.int .u8 0), .lit (.int .u8 0)], .agg [.lit (.int .u8 0), .lit (.int .u8 0)], .agg [.lit (.int .u8 0), .lit (.int .u8 0)], .agg [.lit (.int .u8 0), .lit (.int .u8 0)]]
/-- One of Go's own tables, pinned by name: the form's constant. -/
def laid_unicode_utf8_first : DataW Unit := Go.Pinned.utf8First

/-- 'tocsinlaw26.NflogApart': WHATEVER THE INPUT: true; the input reads as it did. -/
def nflogApartSpec : ChangeSpec := { name := "nflogApart", fn := fun _ => fun
  | [d1, d2, d3, d4] => { results := [.lit (.bool true)], args := [d1, d2, d3, d4] }
  | _ => none }
def nflogApartRow : OpenClaim := { program := "ytlkmfhccpcncnaadoor", sum := "b50cf979ea9729cf60f92ce489b36e9f3d62dee346d416d20503ab4aa8bb9b21", func := "tocsin/tocsinlaw26.NflogApart", spec := "nflogApart", inPlace := ["internal/bytealg.abigen_runtime_cmpstring", "slices.overlaps[tocsin/nflog.entry[tocsin/api.Mark]]"], unfollowed := true, recurses := true, named := ["unicode/utf8.first", "unicode/utf8.acceptRanges"], apart := false, laid := [("unicode/utf8.acceptRanges", laid_unicode_utf8_acceptRanges), ("unicode/utf8.first", laid_unicode_utf8_first)] }
def NflogApartSaid : Prop := nflogApartRow.holds Tryd.pinned (OpenSpec.ofChange nflogApartSpec)

/-- ITS FALSE NEIGHBOUR: 'it returns false'. Refute it at one input. -/
def nflogApartWrong : ChangeSpec := { name := "nflogApart", fn := fun _ => fun
  | [d1, d2, d3, d4] => { results := [.lit (.bool false)], args := [d1, d2, d3, d4] }
  | _ => none }
def NflogApartWrongFalsely : Prop := nflogApartRow.holds Tryd.pinned (OpenSpec.ofChange nflogApartWrong)

/-- 'tocsinlaw26.NflogFull': WHATEVER THE INPUT: true; the input reads as it did. -/
def nflogFullSpec : ChangeSpec := { name := "nflogFull", fn := fun _ => fun
  | [d1, d2] => { results := [.lit (.bool true)], args := [d1, d2] }
  | _ => none }
def nflogFullRow : OpenClaim := { program := "ytlkmfhccpcncnaadoor", sum := "b50cf979ea9729cf60f92ce489b36e9f3d62dee346d416d20503ab4aa8bb9b21", func := "tocsin/tocsinlaw26.NflogFull", spec := "nflogFull", inPlace := ["internal/bytealg.abigen_runtime_cmpstring", "slices.overlaps[tocsin/nflog.entry[tocsin/api.Mark]]"], unfollowed := true, recurses := true, named := ["unicode/utf8.first", "unicode/utf8.acceptRanges"], apart := false, laid := [("unicode/utf8.acceptRanges", laid_unicode_utf8_acceptRanges), ("unicode/utf8.first", laid_unicode_utf8_first)] }
def NflogFullSaid : Prop := nflogFullRow.holds Tryd.pinned (OpenSpec.ofChange nflogFullSpec)

/-- ITS FALSE NEIGHBOUR: 'it returns false'. Refute it at one input. -/
def nflogFullWrong : ChangeSpec := { name := "nflogFull", fn := fun _ => fun
  | [d1, d2] => { results := [.lit (.bool false)], args := [d1, d2] }
  | _ => none }
def NflogFullWrongFalsely : Prop := nflogFullRow.holds Tryd.pinned (OpenSpec.ofChange nflogFullWrong)

/-- 'tocsinlaw26.NflogPlays': WHATEVER THE INPUT: true; the input reads as it did. -/
def nflogPlaysSpec : ChangeSpec := { name := "nflogPlays", fn := fun _ => fun
  | [d] => { results := [.lit (.bool true)], args := [d] }
  | _ => none }
def nflogPlaysRow : OpenClaim := { program := "ytlkmfhccpcncnaadoor", sum := "b50cf979ea9729cf60f92ce489b36e9f3d62dee346d416d20503ab4aa8bb9b21", func := "tocsin/tocsinlaw26.NflogPlays", spec := "nflogPlays", inPlace := ["internal/bytealg.abigen_runtime_cmpstring", "slices.overlaps[tocsin/nflog.entry[tocsin/api.Mark]]"], unfollowed := true, recurses := true, named := ["unicode/utf8.first", "unicode/utf8.acceptRanges"], apart := false, laid := [("unicode/utf8.acceptRanges", laid_unicode_utf8_acceptRanges), ("unicode/utf8.first", laid_unicode_utf8_first)] }
def NflogPlaysSaid : Prop := nflogPlaysRow.holds Tryd.pinned (OpenSpec.ofChange nflogPlaysSpec)

/-- ITS FALSE NEIGHBOUR: 'it returns false'. Refute it at one input. -/
def nflogPlaysWrong : ChangeSpec := { name := "nflogPlays", fn := fun _ => fun
  | [d] => { results := [.lit (.bool false)], args := [d] }
  | _ => none }
def NflogPlaysWrongFalsely : Prop := nflogPlaysRow.holds Tryd.pinned (OpenSpec.ofChange nflogPlaysWrong)

/-- 'tocsinlaw26.NflogNil': WHATEVER THE INPUT: true; the input reads as it did. -/
def nflogNilSpec : ChangeSpec := { name := "nflogNil", fn := fun _ => fun
  | [d] => { results := [.lit (.bool true)], args := [d] }
  | _ => none }
def nflogNilRow : OpenClaim := { program := "ytlkmfhccpcncnaadoor", sum := "b50cf979ea9729cf60f92ce489b36e9f3d62dee346d416d20503ab4aa8bb9b21", func := "tocsin/tocsinlaw26.NflogNil", spec := "nflogNil", inPlace := ["internal/bytealg.abigen_runtime_cmpstring", "slices.overlaps[tocsin/nflog.entry[tocsin/api.Mark]]"], unfollowed := true, recurses := true, named := ["unicode/utf8.first", "unicode/utf8.acceptRanges"], apart := false, laid := [("unicode/utf8.acceptRanges", laid_unicode_utf8_acceptRanges), ("unicode/utf8.first", laid_unicode_utf8_first)] }
def NflogNilSaid : Prop := nflogNilRow.holds Tryd.pinned (OpenSpec.ofChange nflogNilSpec)

/-- ITS FALSE NEIGHBOUR: 'it returns false'. Refute it at one input. -/
def nflogNilWrong : ChangeSpec := { name := "nflogNil", fn := fun _ => fun
  | [d] => { results := [.lit (.bool false)], args := [d] }
  | _ => none }
def NflogNilWrongFalsely : Prop := nflogNilRow.holds Tryd.pinned (OpenSpec.ofChange nflogNilWrong)

/-- 'tocsinlaw26.NflogRecords': WHATEVER THE INPUT: true; the input reads as it did. -/
def nflogRecordsSpec : ChangeSpec := { name := "nflogRecords", fn := fun _ => fun
  | [d1, d2] => { results := [.lit (.bool true)], args := [d1, d2] }
  | _ => none }
def nflogRecordsRow : OpenClaim := { program := "ytlkmfhccpcncnaadoor", sum := "b50cf979ea9729cf60f92ce489b36e9f3d62dee346d416d20503ab4aa8bb9b21", func := "tocsin/tocsinlaw26.NflogRecords", spec := "nflogRecords", inPlace := ["internal/bytealg.abigen_runtime_cmpstring", "slices.overlaps[tocsin/nflog.entry[tocsin/api.Mark]]"], unfollowed := true, recurses := true, named := ["unicode/utf8.first", "unicode/utf8.acceptRanges"], apart := false, laid := [("unicode/utf8.acceptRanges", laid_unicode_utf8_acceptRanges), ("unicode/utf8.first", laid_unicode_utf8_first)] }
def NflogRecordsSaid : Prop := nflogRecordsRow.holds Tryd.pinned (OpenSpec.ofChange nflogRecordsSpec)

/-- ITS FALSE NEIGHBOUR: 'it returns false'. Refute it at one input. -/
def nflogRecordsWrong : ChangeSpec := { name := "nflogRecords", fn := fun _ => fun
  | [d1, d2] => { results := [.lit (.bool false)], args := [d1, d2] }
  | _ => none }
def NflogRecordsWrongFalsely : Prop := nflogRecordsRow.holds Tryd.pinned (OpenSpec.ofChange nflogRecordsWrong)

/-- 'tocsinlaw26.NflogNeeds': WHATEVER THE INPUT: true; the input reads as it did. -/
def nflogNeedsSpec : ChangeSpec := { name := "nflogNeeds", fn := fun _ => fun
  | [d1, d2, d3, d4, d5, d6] => { results := [.lit (.bool true)], args := [d1, d2, d3, d4, d5, d6] }
  | _ => none }
def nflogNeedsRow : OpenClaim := { program := "ytlkmfhccpcncnaadoor", sum := "b50cf979ea9729cf60f92ce489b36e9f3d62dee346d416d20503ab4aa8bb9b21", func := "tocsin/tocsinlaw26.NflogNeeds", spec := "nflogNeeds", inPlace := ["internal/bytealg.abigen_runtime_cmpstring", "slices.overlaps[tocsin/nflog.entry[tocsin/api.Mark]]"], unfollowed := true, recurses := true, named := ["unicode/utf8.first", "unicode/utf8.acceptRanges"], apart := false, laid := [("unicode/utf8.acceptRanges", laid_unicode_utf8_acceptRanges), ("unicode/utf8.first", laid_unicode_utf8_first)] }
def NflogNeedsSaid : Prop := nflogNeedsRow.holds Tryd.pinned (OpenSpec.ofChange nflogNeedsSpec)

/-- ITS FALSE NEIGHBOUR: 'it returns false'. Refute it at one input. -/
def nflogNeedsWrong : ChangeSpec := { name := "nflogNeeds", fn := fun _ => fun
  | [d1, d2, d3, d4, d5, d6] => { results := [.lit (.bool false)], args := [d1, d2, d3, d4, d5, d6] }
  | _ => none }
def NflogNeedsWrongFalsely : Prop := nflogNeedsRow.holds Tryd.pinned (OpenSpec.ofChange nflogNeedsWrong)

/-- 'tocsinlaw26.NflogOnce': WHATEVER THE INPUT: true; the input reads as it did. -/
def nflogOnceSpec : ChangeSpec := { name := "nflogOnce", fn := fun _ => fun
  | [d1, d2, d3, d4] => { results := [.lit (.bool true)], args := [d1, d2, d3, d4] }
  | _ => none }
def nflogOnceRow : OpenClaim := { program := "ytlkmfhccpcncnaadoor", sum := "b50cf979ea9729cf60f92ce489b36e9f3d62dee346d416d20503ab4aa8bb9b21", func := "tocsin/tocsinlaw26.NflogOnce", spec := "nflogOnce", inPlace := ["internal/bytealg.abigen_runtime_cmpstring", "slices.overlaps[tocsin/nflog.entry[tocsin/api.Mark]]"], unfollowed := true, recurses := true, named := ["unicode/utf8.first", "unicode/utf8.acceptRanges"], apart := false, laid := [("unicode/utf8.acceptRanges", laid_unicode_utf8_acceptRanges), ("unicode/utf8.first", laid_unicode_utf8_first)] }
def NflogOnceSaid : Prop := nflogOnceRow.holds Tryd.pinned (OpenSpec.ofChange nflogOnceSpec)

/-- ITS FALSE NEIGHBOUR: 'it returns false'. Refute it at one input. -/
def nflogOnceWrong : ChangeSpec := { name := "nflogOnce", fn := fun _ => fun
  | [d1, d2, d3, d4] => { results := [.lit (.bool false)], args := [d1, d2, d3, d4] }
  | _ => none }
def NflogOnceWrongFalsely : Prop := nflogOnceRow.holds Tryd.pinned (OpenSpec.ofChange nflogOnceWrong)

/- THE SECOND FORM. 'bulk': how many values and letters a reading holds, each counted each time it is reached (what is shared counts as often as it is met; a slice's spare places count too). A statement '..UptoSaid' is the law's where the arguments, and the package variables that the reading takes, are together of bulk at most 1048576: NARROWER than '..Said'. Prove '..Said' where nothing that the law and all that it calls make is longer than what came in: it says more and counts as full. Else prove '..UptoSaid'. A law counts once. -/
mutual
def uptoBulk {H : Type} : DataW H → Nat
  | .lit (.string bytes) => bytes.length + 1
  | .lit _ => 1
  | .nil => 1
  | .ptr d => uptoBulk d + 1
  | .slice elems spare => uptoBulkAll elems + uptoBulkAll spare + 1
  | .agg parts => uptoBulkAll parts + 1
  | .iface _ d => uptoBulk d + 1
  | .map entries => uptoBulkEntries entries + 1
  | .held _ => 1
def uptoBulkAll {H : Type} : List (DataW H) → Nat
  | [] => 0
  | d :: r => uptoBulk d + uptoBulkAll r
def uptoBulkEntries {H : Type} : List (Lit × DataW H) → Nat
  | [] => 0
  | x :: r => uptoBulkEntry x + uptoBulkEntries r
def uptoBulkEntry {H : Type} : Lit × DataW H → Nat
  | (.string bytes, d) => bytes.length + uptoBulk d + 1
  | (_, d) => uptoBulk d + 1
 end
def uptoSmall : (H : Type) → List (DataW H) → Bool := fun _ ds => decide (uptoBulkAll ds ≤ 1048576)
def OpenSpec.upto (s : _root_.Go.ChangeSpec) : _root_.Go.OpenSpec := { _root_.Go.OpenSpec.ofChange s with cond := some uptoSmall }

/-- 'tocsinlaw26.NflogApart', WHERE WHAT IT READS IS OF BULK AT MOST 1048576: true; the input reads as it did. -/
def nflogApartUptoRow : OpenClaim := { program := "ytlkmfhccpcncnaadoor", sum := "b50cf979ea9729cf60f92ce489b36e9f3d62dee346d416d20503ab4aa8bb9b21", func := "tocsin/tocsinlaw26.NflogApart", spec := "nflogApart", inPlace := ["internal/bytealg.abigen_runtime_cmpstring", "slices.overlaps[tocsin/nflog.entry[tocsin/api.Mark]]"], unfollowed := true, recurses := true, named := ["unicode/utf8.first", "unicode/utf8.acceptRanges"], apart := false, laid := [("unicode/utf8.acceptRanges", laid_unicode_utf8_acceptRanges), ("unicode/utf8.first", laid_unicode_utf8_first)], narrowed := true }
def NflogApartUptoSaid : Prop := nflogApartUptoRow.holds Tryd.pinned (OpenSpec.upto nflogApartSpec)

/-- 'tocsinlaw26.NflogFull', WHERE WHAT IT READS IS OF BULK AT MOST 1048576: true; the input reads as it did. -/
def nflogFullUptoRow : OpenClaim := { program := "ytlkmfhccpcncnaadoor", sum := "b50cf979ea9729cf60f92ce489b36e9f3d62dee346d416d20503ab4aa8bb9b21", func := "tocsin/tocsinlaw26.NflogFull", spec := "nflogFull", inPlace := ["internal/bytealg.abigen_runtime_cmpstring", "slices.overlaps[tocsin/nflog.entry[tocsin/api.Mark]]"], unfollowed := true, recurses := true, named := ["unicode/utf8.first", "unicode/utf8.acceptRanges"], apart := false, laid := [("unicode/utf8.acceptRanges", laid_unicode_utf8_acceptRanges), ("unicode/utf8.first", laid_unicode_utf8_first)], narrowed := true }
def NflogFullUptoSaid : Prop := nflogFullUptoRow.holds Tryd.pinned (OpenSpec.upto nflogFullSpec)

/-- 'tocsinlaw26.NflogPlays', WHERE WHAT IT READS IS OF BULK AT MOST 1048576: true; the input reads as it did. -/
def nflogPlaysUptoRow : OpenClaim := { program := "ytlkmfhccpcncnaadoor", sum := "b50cf979ea9729cf60f92ce489b36e9f3d62dee346d416d20503ab4aa8bb9b21", func := "tocsin/tocsinlaw26.NflogPlays", spec := "nflogPlays", inPlace := ["internal/bytealg.abigen_runtime_cmpstring", "slices.overlaps[tocsin/nflog.entry[tocsin/api.Mark]]"], unfollowed := true, recurses := true, named := ["unicode/utf8.first", "unicode/utf8.acceptRanges"], apart := false, laid := [("unicode/utf8.acceptRanges", laid_unicode_utf8_acceptRanges), ("unicode/utf8.first", laid_unicode_utf8_first)], narrowed := true }
def NflogPlaysUptoSaid : Prop := nflogPlaysUptoRow.holds Tryd.pinned (OpenSpec.upto nflogPlaysSpec)

/-- 'tocsinlaw26.NflogNil', WHERE WHAT IT READS IS OF BULK AT MOST 1048576: true; the input reads as it did. -/
def nflogNilUptoRow : OpenClaim := { program := "ytlkmfhccpcncnaadoor", sum := "b50cf979ea9729cf60f92ce489b36e9f3d62dee346d416d20503ab4aa8bb9b21", func := "tocsin/tocsinlaw26.NflogNil", spec := "nflogNil", inPlace := ["internal/bytealg.abigen_runtime_cmpstring", "slices.overlaps[tocsin/nflog.entry[tocsin/api.Mark]]"], unfollowed := true, recurses := true, named := ["unicode/utf8.first", "unicode/utf8.acceptRanges"], apart := false, laid := [("unicode/utf8.acceptRanges", laid_unicode_utf8_acceptRanges), ("unicode/utf8.first", laid_unicode_utf8_first)], narrowed := true }
def NflogNilUptoSaid : Prop := nflogNilUptoRow.holds Tryd.pinned (OpenSpec.upto nflogNilSpec)

/-- 'tocsinlaw26.NflogRecords', WHERE WHAT IT READS IS OF BULK AT MOST 1048576: true; the input reads as it did. -/
def nflogRecordsUptoRow : OpenClaim := { program := "ytlkmfhccpcncnaadoor", sum := "b50cf979ea9729cf60f92ce489b36e9f3d62dee346d416d20503ab4aa8bb9b21", func := "tocsin/tocsinlaw26.NflogRecords", spec := "nflogRecords", inPlace := ["internal/bytealg.abigen_runtime_cmpstring", "slices.overlaps[tocsin/nflog.entry[tocsin/api.Mark]]"], unfollowed := true, recurses := true, named := ["unicode/utf8.first", "unicode/utf8.acceptRanges"], apart := false, laid := [("unicode/utf8.acceptRanges", laid_unicode_utf8_acceptRanges), ("unicode/utf8.first", laid_unicode_utf8_first)], narrowed := true }
def NflogRecordsUptoSaid : Prop := nflogRecordsUptoRow.holds Tryd.pinned (OpenSpec.upto nflogRecordsSpec)

/-- 'tocsinlaw26.NflogNeeds', WHERE WHAT IT READS IS OF BULK AT MOST 1048576: true; the input reads as it did. -/
def nflogNeedsUptoRow : OpenClaim := { program := "ytlkmfhccpcncnaadoor", sum := "b50cf979ea9729cf60f92ce489b36e9f3d62dee346d416d20503ab4aa8bb9b21", func := "tocsin/tocsinlaw26.NflogNeeds", spec := "nflogNeeds", inPlace := ["internal/bytealg.abigen_runtime_cmpstring", "slices.overlaps[tocsin/nflog.entry[tocsin/api.Mark]]"], unfollowed := true, recurses := true, named := ["unicode/utf8.first", "unicode/utf8.acceptRanges"], apart := false, laid := [("unicode/utf8.acceptRanges", laid_unicode_utf8_acceptRanges), ("unicode/utf8.first", laid_unicode_utf8_first)], narrowed := true }
def NflogNeedsUptoSaid : Prop := nflogNeedsUptoRow.holds Tryd.pinned (OpenSpec.upto nflogNeedsSpec)

/-- 'tocsinlaw26.NflogOnce', WHERE WHAT IT READS IS OF BULK AT MOST 1048576: true; the input reads as it did. -/
def nflogOnceUptoRow : OpenClaim := { program := "ytlkmfhccpcncnaadoor", sum := "b50cf979ea9729cf60f92ce489b36e9f3d62dee346d416d20503ab4aa8bb9b21", func := "tocsin/tocsinlaw26.NflogOnce", spec := "nflogOnce", inPlace := ["internal/bytealg.abigen_runtime_cmpstring", "slices.overlaps[tocsin/nflog.entry[tocsin/api.Mark]]"], unfollowed := true, recurses := true, named := ["unicode/utf8.first", "unicode/utf8.acceptRanges"], apart := false, laid := [("unicode/utf8.acceptRanges", laid_unicode_utf8_acceptRanges), ("unicode/utf8.first", laid_unicode_utf8_first)], narrowed := true }
def NflogOnceUptoSaid : Prop := nflogOnceUptoRow.holds Tryd.pinned (OpenSpec.upto nflogOnceSpec)

end Rows
end Go.Proofs.YtlkmfhccpcncnaaDoor
