/- An array that is told, with what lies behind its end, becomes a list with a spare that is known. -/
import Derived.Test.YteempnebenjkmaaGreatDoorMc
namespace Go.Proofs.YteempnebenjkmaaGreatDoor
open Go.RowKit
set_option linter.unusedSimpArgs false
set_option maxRecDepth 100000
set_option linter.unusedVariables false
variable {T : Nat -> Type}
section
variable {C : Zaw T} {P : Program}
end
end Go.Proofs.YteempnebenjkmaaGreatDoor
