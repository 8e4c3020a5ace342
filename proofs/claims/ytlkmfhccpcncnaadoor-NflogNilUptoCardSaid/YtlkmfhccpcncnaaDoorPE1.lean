/- nflog.NflogNil: what there is not answers ErrNil, or nothing. -/
import Derived.Test.YtlkmfhccpcncnaaDoorN6C
import Derived.Test.YtlkmfhccpcncnaaDoorGBR
set_option linter.unusedVariables false
set_option maxRecDepth 100000
namespace Go.Proofs.YtlkmfhccpcncnaaDoor
open Go.GB
theorem awakeN_true : tocsinlaw26_awake = some true := tocsinlaw26_awake_ev _ (by kernel_rfl)
theorem sameN_zero : tocsinref26_Same (⟨(⟨#[]⟩ : ByteArray), (⟨#[]⟩ : ByteArray), 0, [], []⟩ : S23) (⟨(⟨#[]⟩ : ByteArray), (⟨#[]⟩ : ByteArray), 0, [], []⟩ : S23) = some true := tocsinref26_Same_ev _ _ _ (by kernel_rfl)
theorem tocsinlaw26_NflogNil_true {I : Imm} {c0 : List Value} {n0 : Nat} (a0 : S44) (h0 : kS44.R I a0 c0) (w0 : wS44 a0 n0) (hn : n0 ≤ 1048576) : tocsinlaw26_NflogNil a0 = some true := by
  simp [tocsinlaw26_NflogNil, nflog_Log_Put, nflog_Log_Needs, nflog_Log_Sweep, nflog_Log_Find, nflog_Log_Len, tocsinlaw26_every, nflog_Log_Records, sameN_zero, awakeN_true]
end Go.Proofs.YtlkmfhccpcncnaaDoor
