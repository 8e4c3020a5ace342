/-
  NARROWER THAN 'FOR EVERY INPUT', by the rows' own cells (each row's printed sentence says how): VecSets: laid · VecTurns: laid · AggrOrder: laid · AggrBounds: laid · AggrTop: laid · AggrNumbers: laid · AggrFolds: laid · AggrGroups: laid · AggrGroup: laid.
  DERIVED. THE GIVEN ROWS OF THIS SEAT. 9 by the template 'for every input the law returns true; each argument reads behind the call as it read before'; 0 by the template 'total and deterministic' (their statements: YtkjkkimnjpodiaaGreatDoorTotals.lean).
  GIVEN WITH THE SEED: the statements are not yours to turn. If you find one false, say at which input.
  Laid BY PROGRAM, IN A SANDBOX (cutbox-rows.mjs): the forced cells as the released guide's own fill.sh prints them over the translation b2829a5fd916030d… (all of the seat's roots in one cut). By AI agents, Wed Nov 11 2026. No macro, syntax, notation, axiom, sorry.
-/
import Derived.Test.YtkjkkimnjpodiaaGreatDoorChecked
import GoSem.PinnedTables
import GoSem.Claim
import GoSem.ClaimJoined
import GoSem.ClaimMapViews
import Derived.JoinedTies
import Derived.KernelRfl
namespace Go.Proofs.YtkjkkimnjpodiaaGreatDoor
/- THE CELL 'sum', in the pinned program and in every row, IS THE sha256 OF THE DUMP (.gsa) THAT YtkjkkimnjpodiaaGreatDoorProg.lean LOADS. Nothing in Lean hashes anything: it is a label: what it is worth is what the hold of that sum in a sandbox is worth. -/
noncomputable def Tryz.pinned : Pinned := { name := "ytkjkkimnjpodiaagreatdoor", sum := "b2829a5fd916030d5dff0445ad1e6abeeb43eefbf39f28a3e7ce873fe23bbc80", checked := Tryz.checked }
namespace Rows
def none {H : Type} : Left H := { results := [], args := [] }

/- WHAT THE LISTED PACKAGE-LEVEL VARIABLES READ AS WHEN THE CALL BEGINS. Each datum BY PROGRAM (the guide's laid-datum.mjs) off the statement by which the dump's own 'gosem.cut.vars' lays the variable. In a bare row this is a premise. The card (YtkjkkimnjpodiaaGreatDoorCards.lean) ties it to the program's text. -/
def laid_unicode_utf8_acceptRanges {H : Type} : DataW H := .agg [.agg [.lit (.int .u8 128), .lit (.int .u8 191)], .agg [.lit (.int .u8 160), .lit (.int .u8 191)], .agg [.lit (.int .u8 128), .lit (.int .u8 159)], .agg [.lit (.int .u8 144), .lit (.int .u8 191)], .agg [.lit (.int .u8 128), .lit (.int .u8 143)], .agg [.lit (.int .u8 0), .lit (.int .u8 0)], .agg [.lit (.int .u8 0), .lit (.int .u8 0)], .agg [.lit (.int .u8 0), .lit (.int .u8 0)], .agg [.lit (.int .u8 0), .lit (.int .u8 0)], .agg [.lit (.int .u8 0), .lit (.int .u8 0)], .agg [.lit (.int .u8 0), .lit (.int .u8 0)], .agg [.lit (.int .u8 0), .lit (.int .u8 0)], .agg [.lit (.int .u8 0), .lit (.int .u8 0)], .agg [.lit (.int .u8 0), .lit (.int .u8 0)], .agg [.lit (.int .u8 0), .lit (.int .u8 0)], .agg [.lit (.int .u8 0), .lit (.int .u8 0)]]
/-- One of Go's own tables, pinned by name: the form's constant. -/
def laid_unicode_utf8_first : DataW Unit := Go.Pinned.utf8First

/-- 'tocsinlaw15.VecSets': WHATEVER THE INPUT: true; the input reads as it did. -/
def vecSetsSpec : ChangeSpec := { name := "vecSets", fn := fun _ => fun
  | [d1, d2, d3] => { results := [.lit (.bool true)], args := [d1, d2, d3] }
  | _ => none }
def vecSetsRow : OpenClaim := { program := "ytkjkkimnjpodiaagreatdoor", sum := "b2829a5fd916030d5dff0445ad1e6abeeb43eefbf39f28a3e7ce873fe23bbc80", func := "tocsin/tocsinlaw15.VecSets", spec := "vecSets", inPlace := ["internal/bytealg.abigen_runtime_cmpstring", "math.Float64bits", "math.Float64frombits", "math.archTrunc"], unfollowed := true, recurses := true, named := ["unicode/utf8.first", "unicode/utf8.acceptRanges"], apart := false, laid := [("unicode/utf8.acceptRanges", laid_unicode_utf8_acceptRanges), ("unicode/utf8.first", laid_unicode_utf8_first)] }
def VecSetsSaid : Prop := vecSetsRow.holds Tryz.pinned (OpenSpec.ofChange vecSetsSpec)

/-- ITS FALSE NEIGHBOUR: 'it returns false'. Refute it at one input. -/
def vecSetsWrong : ChangeSpec := { name := "vecSets", fn := fun _ => fun
  | [d1, d2, d3] => { results := [.lit (.bool false)], args := [d1, d2, d3] }
  | _ => none }
def VecSetsWrongFalsely : Prop := vecSetsRow.holds Tryz.pinned (OpenSpec.ofChange vecSetsWrong)

/-- 'tocsinlaw15.VecTurns': WHATEVER THE INPUT: true; the input reads as it did. -/
def vecTurnsSpec : ChangeSpec := { name := "vecTurns", fn := fun _ => fun
  | [d1, d2, d3, d4] => { results := [.lit (.bool true)], args := [d1, d2, d3, d4] }
  | _ => none }
def vecTurnsRow : OpenClaim := { program := "ytkjkkimnjpodiaagreatdoor", sum := "b2829a5fd916030d5dff0445ad1e6abeeb43eefbf39f28a3e7ce873fe23bbc80", func := "tocsin/tocsinlaw15.VecTurns", spec := "vecTurns", inPlace := ["internal/bytealg.abigen_runtime_cmpstring", "math.Float64bits", "math.Float64frombits", "math.archTrunc"], unfollowed := true, recurses := true, named := ["unicode/utf8.first", "unicode/utf8.acceptRanges"], apart := false, laid := [("unicode/utf8.acceptRanges", laid_unicode_utf8_acceptRanges), ("unicode/utf8.first", laid_unicode_utf8_first)] }
def VecTurnsSaid : Prop := vecTurnsRow.holds Tryz.pinned (OpenSpec.ofChange vecTurnsSpec)

/-- ITS FALSE NEIGHBOUR: 'it returns false'. Refute it at one input. -/
def vecTurnsWrong : ChangeSpec := { name := "vecTurns", fn := fun _ => fun
  | [d1, d2, d3, d4] => { results := [.lit (.bool false)], args := [d1, d2, d3, d4] }
  | _ => none }
def VecTurnsWrongFalsely : Prop := vecTurnsRow.holds Tryz.pinned (OpenSpec.ofChange vecTurnsWrong)

/-- 'tocsinlaw16.AggrOrder': WHATEVER THE INPUT: true; the input reads as it did. -/
def aggrOrderSpec : ChangeSpec := { name := "aggrOrder", fn := fun _ => fun
  | [d1, d2, d3, d4, d5, d6] => { results := [.lit (.bool true)], args := [d1, d2, d3, d4, d5, d6] }
  | _ => none }
def aggrOrderRow : OpenClaim := { program := "ytkjkkimnjpodiaagreatdoor", sum := "b2829a5fd916030d5dff0445ad1e6abeeb43eefbf39f28a3e7ce873fe23bbc80", func := "tocsin/tocsinlaw16.AggrOrder", spec := "aggrOrder", inPlace := ["internal/bytealg.abigen_runtime_cmpstring", "math.sqrt", "math.Float64frombits", "math.Float64bits"], unfollowed := true, recurses := true, named := ["unicode/utf8.first", "unicode/utf8.acceptRanges"], apart := false, laid := [("unicode/utf8.acceptRanges", laid_unicode_utf8_acceptRanges), ("unicode/utf8.first", laid_unicode_utf8_first)] }
def AggrOrderSaid : Prop := aggrOrderRow.holds Tryz.pinned (OpenSpec.ofChange aggrOrderSpec)

/-- ITS FALSE NEIGHBOUR: 'it returns false'. Refute it at one input. -/
def aggrOrderWrong : ChangeSpec := { name := "aggrOrder", fn := fun _ => fun
  | [d1, d2, d3, d4, d5, d6] => { results := [.lit (.bool false)], args := [d1, d2, d3, d4, d5, d6] }
  | _ => none }
def AggrOrderWrongFalsely : Prop := aggrOrderRow.holds Tryz.pinned (OpenSpec.ofChange aggrOrderWrong)

/-- 'tocsinlaw16.AggrBounds': WHATEVER THE INPUT: true; the input reads as it did. -/
def aggrBoundsSpec : ChangeSpec := { name := "aggrBounds", fn := fun _ => fun
  | [d1, d2, d3] => { results := [.lit (.bool true)], args := [d1, d2, d3] }
  | _ => none }
def aggrBoundsRow : OpenClaim := { program := "ytkjkkimnjpodiaagreatdoor", sum := "b2829a5fd916030d5dff0445ad1e6abeeb43eefbf39f28a3e7ce873fe23bbc80", func := "tocsin/tocsinlaw16.AggrBounds", spec := "aggrBounds", inPlace := ["math.sqrt", "math.Float64frombits", "math.Float64bits", "internal/bytealg.abigen_runtime_cmpstring"], unfollowed := true, recurses := true, named := ["unicode/utf8.first", "unicode/utf8.acceptRanges"], apart := false, laid := [("unicode/utf8.acceptRanges", laid_unicode_utf8_acceptRanges), ("unicode/utf8.first", laid_unicode_utf8_first)] }
def AggrBoundsSaid : Prop := aggrBoundsRow.holds Tryz.pinned (OpenSpec.ofChange aggrBoundsSpec)

/-- ITS FALSE NEIGHBOUR: 'it returns false'. Refute it at one input. -/
def aggrBoundsWrong : ChangeSpec := { name := "aggrBounds", fn := fun _ => fun
  | [d1, d2, d3] => { results := [.lit (.bool false)], args := [d1, d2, d3] }
  | _ => none }
def AggrBoundsWrongFalsely : Prop := aggrBoundsRow.holds Tryz.pinned (OpenSpec.ofChange aggrBoundsWrong)

/-- 'tocsinlaw16.AggrTop': WHATEVER THE INPUT: true; the input reads as it did. -/
def aggrTopSpec : ChangeSpec := { name := "aggrTop", fn := fun _ => fun
  | [d1, d2, d3, d4] => { results := [.lit (.bool true)], args := [d1, d2, d3, d4] }
  | _ => none }
def aggrTopRow : OpenClaim := { program := "ytkjkkimnjpodiaagreatdoor", sum := "b2829a5fd916030d5dff0445ad1e6abeeb43eefbf39f28a3e7ce873fe23bbc80", func := "tocsin/tocsinlaw16.AggrTop", spec := "aggrTop", inPlace := ["internal/bytealg.abigen_runtime_cmpstring", "math.sqrt", "math.Float64frombits", "math.Float64bits"], unfollowed := true, recurses := true, named := ["unicode/utf8.first", "unicode/utf8.acceptRanges"], apart := false, laid := [("unicode/utf8.acceptRanges", laid_unicode_utf8_acceptRanges), ("unicode/utf8.first", laid_unicode_utf8_first)] }
def AggrTopSaid : Prop := aggrTopRow.holds Tryz.pinned (OpenSpec.ofChange aggrTopSpec)

/-- ITS FALSE NEIGHBOUR: 'it returns false'. Refute it at one input. -/
def aggrTopWrong : ChangeSpec := { name := "aggrTop", fn := fun _ => fun
  | [d1, d2, d3, d4] => { results := [.lit (.bool false)], args := [d1, d2, d3, d4] }
  | _ => none }
def AggrTopWrongFalsely : Prop := aggrTopRow.holds Tryz.pinned (OpenSpec.ofChange aggrTopWrong)

/-- 'tocsinlaw16.AggrNumbers': WHATEVER THE INPUT: true; the input reads as it did. -/
def aggrNumbersSpec : ChangeSpec := { name := "aggrNumbers", fn := fun _ => fun
  | [d1, d2, d3, d4, d5] => { results := [.lit (.bool true)], args := [d1, d2, d3, d4, d5] }
  | _ => none }
def aggrNumbersRow : OpenClaim := { program := "ytkjkkimnjpodiaagreatdoor", sum := "b2829a5fd916030d5dff0445ad1e6abeeb43eefbf39f28a3e7ce873fe23bbc80", func := "tocsin/tocsinlaw16.AggrNumbers", spec := "aggrNumbers", inPlace := ["internal/bytealg.abigen_runtime_cmpstring", "math.sqrt", "math.Float64frombits", "math.Float64bits"], unfollowed := true, recurses := true, named := ["unicode/utf8.first", "unicode/utf8.acceptRanges"], apart := false, laid := [("unicode/utf8.acceptRanges", laid_unicode_utf8_acceptRanges), ("unicode/utf8.first", laid_unicode_utf8_first)] }
def AggrNumbersSaid : Prop := aggrNumbersRow.holds Tryz.pinned (OpenSpec.ofChange aggrNumbersSpec)

/-- ITS FALSE NEIGHBOUR: 'it returns false'. Refute it at one input. -/
def aggrNumbersWrong : ChangeSpec := { name := "aggrNumbers", fn := fun _ => fun
  | [d1, d2, d3, d4, d5] => { results := [.lit (.bool false)], args := [d1, d2, d3, d4, d5] }
  | _ => none }
def AggrNumbersWrongFalsely : Prop := aggrNumbersRow.holds Tryz.pinned (OpenSpec.ofChange aggrNumbersWrong)

/-- 'tocsinlaw16.AggrFolds': WHATEVER THE INPUT: true; the input reads as it did. -/
def aggrFoldsSpec : ChangeSpec := { name := "aggrFolds", fn := fun _ => fun
  | [d1, d2, d3] => { results := [.lit (.bool true)], args := [d1, d2, d3] }
  | _ => none }
def aggrFoldsRow : OpenClaim := { program := "ytkjkkimnjpodiaagreatdoor", sum := "b2829a5fd916030d5dff0445ad1e6abeeb43eefbf39f28a3e7ce873fe23bbc80", func := "tocsin/tocsinlaw16.AggrFolds", spec := "aggrFolds", inPlace := ["math.sqrt", "math.Float64frombits", "math.Float64bits", "internal/bytealg.abigen_runtime_cmpstring"], unfollowed := true, recurses := true, named := ["unicode/utf8.first", "unicode/utf8.acceptRanges"], apart := false, laid := [("unicode/utf8.acceptRanges", laid_unicode_utf8_acceptRanges), ("unicode/utf8.first", laid_unicode_utf8_first)] }
def AggrFoldsSaid : Prop := aggrFoldsRow.holds Tryz.pinned (OpenSpec.ofChange aggrFoldsSpec)

/-- ITS FALSE NEIGHBOUR: 'it returns false'. Refute it at one input. -/
def aggrFoldsWrong : ChangeSpec := { name := "aggrFolds", fn := fun _ => fun
  | [d1, d2, d3] => { results := [.lit (.bool false)], args := [d1, d2, d3] }
  | _ => none }
def AggrFoldsWrongFalsely : Prop := aggrFoldsRow.holds Tryz.pinned (OpenSpec.ofChange aggrFoldsWrong)

/-- 'tocsinlaw16.AggrGroups': WHATEVER THE INPUT: true; the input reads as it did. -/
def aggrGroupsSpec : ChangeSpec := { name := "aggrGroups", fn := fun _ => fun
  | [d1, d2, d3] => { results := [.lit (.bool true)], args := [d1, d2, d3] }
  | _ => none }
def aggrGroupsRow : OpenClaim := { program := "ytkjkkimnjpodiaagreatdoor", sum := "b2829a5fd916030d5dff0445ad1e6abeeb43eefbf39f28a3e7ce873fe23bbc80", func := "tocsin/tocsinlaw16.AggrGroups", spec := "aggrGroups", inPlace := ["internal/bytealg.abigen_runtime_cmpstring", "math.Float64bits", "math.sqrt", "math.Float64frombits"], unfollowed := true, recurses := true, named := ["unicode/utf8.first", "unicode/utf8.acceptRanges"], apart := false, laid := [("unicode/utf8.acceptRanges", laid_unicode_utf8_acceptRanges), ("unicode/utf8.first", laid_unicode_utf8_first)] }
def AggrGroupsSaid : Prop := aggrGroupsRow.holds Tryz.pinned (OpenSpec.ofChange aggrGroupsSpec)

/-- ITS FALSE NEIGHBOUR: 'it returns false'. Refute it at one input. -/
def aggrGroupsWrong : ChangeSpec := { name := "aggrGroups", fn := fun _ => fun
  | [d1, d2, d3] => { results := [.lit (.bool false)], args := [d1, d2, d3] }
  | _ => none }
def AggrGroupsWrongFalsely : Prop := aggrGroupsRow.holds Tryz.pinned (OpenSpec.ofChange aggrGroupsWrong)

/-- 'tocsinlaw16.AggrGroup': WHATEVER THE INPUT: true; the input reads as it did. -/
def aggrGroupSpec : ChangeSpec := { name := "aggrGroup", fn := fun _ => fun
  | [d1, d2, d3] => { results := [.lit (.bool true)], args := [d1, d2, d3] }
  | _ => none }
def aggrGroupRow : OpenClaim := { program := "ytkjkkimnjpodiaagreatdoor", sum := "b2829a5fd916030d5dff0445ad1e6abeeb43eefbf39f28a3e7ce873fe23bbc80", func := "tocsin/tocsinlaw16.AggrGroup", spec := "aggrGroup", inPlace := ["internal/bytealg.abigen_runtime_cmpstring", "math.sqrt", "math.Float64frombits", "math.Float64bits"], unfollowed := true, recurses := true, named := ["unicode/utf8.first", "unicode/utf8.acceptRanges"], apart := false, laid := [("unicode/utf8.acceptRanges", laid_unicode_utf8_acceptRanges), ("unicode/utf8.first", laid_unicode_utf8_first)] }
def AggrGroupSaid : Prop := aggrGroupRow.holds Tryz.pinned (OpenSpec.ofChange aggrGroupSpec)

/-- ITS FALSE NEIGHBOUR: 'it returns false'. Refute it at one input. -/
def aggrGroupWrong : ChangeSpec := { name := "aggrGroup", fn := fun _ => fun
  | [d1, d2, d3] => { results := [.lit (.bool false)], args := [d1, d2, d3] }
  | _ => none }
def AggrGroupWrongFalsely : Prop := aggrGroupRow.holds Tryz.pinned (OpenSpec.ofChange aggrGroupWrong)

/- THE SECOND FORM. 'bulk': how many values and letters a reading holds, each counted each time it is reached (what is shared counts as often as it is met; a slice's spare places count too). A statement '..UptoSaid' is the law's where the arguments, and the package variables that the reading takes, are together of bulk at most 1048576: NARROWER than '..Said'. Prove '..Said' where nothing that the law and all that it calls make is longer than what came in: it says more and counts as full. Else prove '..UptoSaid'. A law counts once. -/
mutual
def uptoBulk {H : Type} : DataW H → Nat
  | .lit (.string bytes) => bytes.length + 1
  | .lit _ => 1
  | .nil => 1
  | .ptr d => uptoBulk d + 1
  | .slice elems spare => uptoBulkAll elems + uptoBulkAll spare + 1
  | .agg parts => uptoBulkAll parts + 1
  | .iface _ d => uptoBulk d + 1
  | .map entries => uptoBulkEntries entries + 1
  | .held _ => 1
def uptoBulkAll {H : Type} : List (DataW H) → Nat
  | [] => 0
  | d :: r => uptoBulk d + uptoBulkAll r
def uptoBulkEntries {H : Type} : List (Lit × DataW H) → Nat
  | [] => 0
  | x :: r => uptoBulkEntry x + uptoBulkEntries r
def uptoBulkEntry {H : Type} : Lit × DataW H → Nat
  | (.string bytes, d) => bytes.length + uptoBulk d + 1
  | (_, d) => uptoBulk d + 1
 end
def uptoSmall : (H : Type) → List (DataW H) → Bool := fun _ ds => decide (uptoBulkAll ds ≤ 1048576)
def OpenSpec.upto (s : _root_.Go.ChangeSpec) : _root_.Go.OpenSpec := { _root_.Go.OpenSpec.ofChange s with cond := some uptoSmall }

/-- 'tocsinlaw15.VecSets', WHERE WHAT IT READS IS OF BULK AT MOST 1048576: true; the input reads as it did. -/
def vecSetsUptoRow : OpenClaim := { program := "ytkjkkimnjpodiaagreatdoor", sum := "b2829a5fd916030d5dff0445ad1e6abeeb43eefbf39f28a3e7ce873fe23bbc80", func := "tocsin/tocsinlaw15.VecSets", spec := "vecSets", inPlace := ["internal/bytealg.abigen_runtime_cmpstring", "math.Float64bits", "math.Float64frombits", "math.archTrunc"], unfollowed := true, recurses := true, named := ["unicode/utf8.first", "unicode/utf8.acceptRanges"], apart := false, laid := [("unicode/utf8.acceptRanges", laid_unicode_utf8_acceptRanges), ("unicode/utf8.first", laid_unicode_utf8_first)], narrowed := true }
def VecSetsUptoSaid : Prop := vecSetsUptoRow.holds Tryz.pinned (OpenSpec.upto vecSetsSpec)

/-- 'tocsinlaw15.VecTurns', WHERE WHAT IT READS IS OF BULK AT MOST 1048576: true; the input reads as it did. -/
def vecTurnsUptoRow : OpenClaim := { program := "ytkjkkimnjpodiaagreatdoor", sum := "b2829a5fd916030d5dff0445ad1e6abeeb43eefbf39f28a3e7ce873fe23bbc80", func := "tocsin/tocsinlaw15.VecTurns", spec := "vecTurns", inPlace := ["internal/bytealg.abigen_runtime_cmpstring", "math.Float64bits", "math.Float64frombits", "math.archTrunc"], unfollowed := true, recurses := true, named := ["unicode/utf8.first", "unicode/utf8.acceptRanges"], apart := false, laid := [("unicode/utf8.acceptRanges", laid_unicode_utf8_acceptRanges), ("unicode/utf8.first", laid_unicode_utf8_first)], narrowed := true }
def VecTurnsUptoSaid : Prop := vecTurnsUptoRow.holds Tryz.pinned (OpenSpec.upto vecTurnsSpec)

/-- 'tocsinlaw16.AggrOrder', WHERE WHAT IT READS IS OF BULK AT MOST 1048576: true; the input reads as it did. -/
def aggrOrderUptoRow : OpenClaim := { program := "ytkjkkimnjpodiaagreatdoor", sum := "b2829a5fd916030d5dff0445ad1e6abeeb43eefbf39f28a3e7ce873fe23bbc80", func := "tocsin/tocsinlaw16.AggrOrder", spec := "aggrOrder", inPlace := ["internal/bytealg.abigen_runtime_cmpstring", "math.sqrt", "math.Float64frombits", "math.Float64bits"], unfollowed := true, recurses := true, named := ["unicode/utf8.first", "unicode/utf8.acceptRanges"], apart := false, laid := [("unicode/utf8.acceptRanges", laid_unicode_utf8_acceptRanges), ("unicode/utf8.first", laid_unicode_utf8_first)], narrowed := true }
def AggrOrderUptoSaid : Prop := aggrOrderUptoRow.holds Tryz.pinned (OpenSpec.upto aggrOrderSpec)

/-- 'tocsinlaw16.AggrBounds', WHERE WHAT IT READS IS OF BULK AT MOST 1048576: true; the input reads as it did. -/
def aggrBoundsUptoRow : OpenClaim := { program := "ytkjkkimnjpodiaagreatdoor", sum := "b2829a5fd916030d5dff0445ad1e6abeeb43eefbf39f28a3e7ce873fe23bbc80", func := "tocsin/tocsinlaw16.AggrBounds", spec := "aggrBounds", inPlace := ["math.sqrt", "math.Float64frombits", "math.Float64bits", "internal/bytealg.abigen_runtime_cmpstring"], unfollowed := true, recurses := true, named := ["unicode/utf8.first", "unicode/utf8.acceptRanges"], apart := false, laid := [("unicode/utf8.acceptRanges", laid_unicode_utf8_acceptRanges), ("unicode/utf8.first", laid_unicode_utf8_first)], narrowed := true }
def AggrBoundsUptoSaid : Prop := aggrBoundsUptoRow.holds Tryz.pinned (OpenSpec.upto aggrBoundsSpec)

/-- 'tocsinlaw16.AggrTop', WHERE WHAT IT READS IS OF BULK AT MOST 1048576: true; the input reads as it did. -/
def aggrTopUptoRow : OpenClaim := { program := "ytkjkkimnjpodiaagreatdoor", sum := "b2829a5fd916030d5dff0445ad1e6abeeb43eefbf39f28a3e7ce873fe23bbc80", func := "tocsin/tocsinlaw16.AggrTop", spec := "aggrTop", inPlace := ["internal/bytealg.abigen_runtime_cmpstring", "math.sqrt", "math.Float64frombits", "math.Float64bits"], unfollowed := true, recurses := true, named := ["unicode/utf8.first", "unicode/utf8.acceptRanges"], apart := false, laid := [("unicode/utf8.acceptRanges", laid_unicode_utf8_acceptRanges), ("unicode/utf8.first", laid_unicode_utf8_first)], narrowed := true }
def AggrTopUptoSaid : Prop := aggrTopUptoRow.holds Tryz.pinned (OpenSpec.upto aggrTopSpec)

/-- 'tocsinlaw16.AggrNumbers', WHERE WHAT IT READS IS OF BULK AT MOST 1048576: true; the input reads as it did. -/
def aggrNumbersUptoRow : OpenClaim := { program := "ytkjkkimnjpodiaagreatdoor", sum := "b2829a5fd916030d5dff0445ad1e6abeeb43eefbf39f28a3e7ce873fe23bbc80", func := "tocsin/tocsinlaw16.AggrNumbers", spec := "aggrNumbers", inPlace := ["internal/bytealg.abigen_runtime_cmpstring", "math.sqrt", "math.Float64frombits", "math.Float64bits"], unfollowed := true, recurses := true, named := ["unicode/utf8.first", "unicode/utf8.acceptRanges"], apart := false, laid := [("unicode/utf8.acceptRanges", laid_unicode_utf8_acceptRanges), ("unicode/utf8.first", laid_unicode_utf8_first)], narrowed := true }
def AggrNumbersUptoSaid : Prop := aggrNumbersUptoRow.holds Tryz.pinned (OpenSpec.upto aggrNumbersSpec)

/-- 'tocsinlaw16.AggrFolds', WHERE WHAT IT READS IS OF BULK AT MOST 1048576: true; the input reads as it did. -/
def aggrFoldsUptoRow : OpenClaim := { program := "ytkjkkimnjpodiaagreatdoor", sum := "b2829a5fd916030d5dff0445ad1e6abeeb43eefbf39f28a3e7ce873fe23bbc80", func := "tocsin/tocsinlaw16.AggrFolds", spec := "aggrFolds", inPlace := ["math.sqrt", "math.Float64frombits", "math.Float64bits", "internal/bytealg.abigen_runtime_cmpstring"], unfollowed := true, recurses := true, named := ["unicode/utf8.first", "unicode/utf8.acceptRanges"], apart := false, laid := [("unicode/utf8.acceptRanges", laid_unicode_utf8_acceptRanges), ("unicode/utf8.first", laid_unicode_utf8_first)], narrowed := true }
def AggrFoldsUptoSaid : Prop := aggrFoldsUptoRow.holds Tryz.pinned (OpenSpec.upto aggrFoldsSpec)

/-- 'tocsinlaw16.AggrGroups', WHERE WHAT IT READS IS OF BULK AT MOST 1048576: true; the input reads as it did. -/
def aggrGroupsUptoRow : OpenClaim := { program := "ytkjkkimnjpodiaagreatdoor", sum := "b2829a5fd916030d5dff0445ad1e6abeeb43eefbf39f28a3e7ce873fe23bbc80", func := "tocsin/tocsinlaw16.AggrGroups", spec := "aggrGroups", inPlace := ["internal/bytealg.abigen_runtime_cmpstring", "math.Float64bits", "math.sqrt", "math.Float64frombits"], unfollowed := true, recurses := true, named := ["unicode/utf8.first", "unicode/utf8.acceptRanges"], apart := false, laid := [("unicode/utf8.acceptRanges", laid_unicode_utf8_acceptRanges), ("unicode/utf8.first", laid_unicode_utf8_first)], narrowed := true }
def AggrGroupsUptoSaid : Prop := aggrGroupsUptoRow.holds Tryz.pinned (OpenSpec.upto aggrGroupsSpec)

/-- 'tocsinlaw16.AggrGroup', WHERE WHAT IT READS IS OF BULK AT MOST 1048576: true; the input reads as it did. -/
def aggrGroupUptoRow : OpenClaim := { program := "ytkjkkimnjpodiaagreatdoor", sum := "b2829a5fd916030d5dff0445ad1e6abeeb43eefbf39f28a3e7ce873fe23bbc80", func := "tocsin/tocsinlaw16.AggrGroup", spec := "aggrGroup", inPlace := ["internal/bytealg.abigen_runtime_cmpstring", "math.sqrt", "math.Float64frombits", "math.Float64bits"], unfollowed := true, recurses := true, named := ["unicode/utf8.first", "unicode/utf8.acceptRanges"], apart := false, laid := [("unicode/utf8.acceptRanges", laid_unicode_utf8_acceptRanges), ("unicode/utf8.first", laid_unicode_utf8_first)], narrowed := true }
def AggrGroupUptoSaid : Prop := aggrGroupUptoRow.holds Tryz.pinned (OpenSpec.upto aggrGroupSpec)

end Rows
end Go.Proofs.YtkjkkimnjpodiaaGreatDoor
