/- Plain laws: the document's texts in quotes, its tokens; LexTokens. -/
import Derived.Test.YtlhpclfkoblnkaaDoorLX9p
set_option linter.unusedVariables false
set_option maxRecDepth 100000
namespace Go.Proofs.YtlhpclfkoblnkaaDoor
open Go.GB Go.Lib
def rfin : (Unit) ⊕ (ByteArray × Int × Bool) → ByteArray × Int × Bool | .inl _ => (⟨#[]⟩, 0, false) | .inr v => v
end Go.Proofs.YtlhpclfkoblnkaaDoor
