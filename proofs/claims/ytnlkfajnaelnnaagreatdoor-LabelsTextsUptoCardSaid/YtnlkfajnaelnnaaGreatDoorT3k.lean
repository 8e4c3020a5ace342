/- labels.quoted at "x" (what the example of chapter 4 asks of it). -/
import Derived.Test.YtnlkfajnaelnnaaGreatDoorT2k
import Derived.WalkSpells
set_option linter.unusedVariables false
set_option linter.unusedSimpArgs false
namespace Go.Proofs.YtnlkfajnaelnnaaGreatDoor
open Go.RowKit

end Go.Proofs.YtnlkfajnaelnnaaGreatDoor
