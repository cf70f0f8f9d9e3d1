/- A call that writes one array of ours, as a law of the kit's shelf tells it. -/
import Derived.Test.YteempnebenjkmaaGreatDoorMc
import Derived.Sort.Grow
namespace Go.Proofs.YteempnebenjkmaaGreatDoor
open Go.RowKit
set_option linter.unusedSimpArgs false
set_option maxRecDepth 100000
set_option linter.unusedVariables false
variable {T : Nat -> Type}
section
variable {C : Zaw T} {P : Program} {w w' : World} {σ : St} {Z : Nat -> Prop} {ρ : Nat -> AV}
end
end Go.Proofs.YteempnebenjkmaaGreatDoor
