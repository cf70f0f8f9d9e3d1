/- An array that is told (not to be written any more) as a list. -/
import Derived.Test.YteempnebenjkmaaGreatDoorMm
import Derived.Test.YteempnebenjkmaaGreatDoorMd
namespace Go.Proofs.YteempnebenjkmaaGreatDoor
open Go.RowKit
set_option linter.unusedSimpArgs false
set_option maxRecDepth 100000
set_option linter.unusedVariables false
set_option linter.unusedSectionVars false
section
variable {T : Nat -> Type} {C : ZaA T} {P : Program}
end
end Go.Proofs.YteempnebenjkmaaGreatDoor
