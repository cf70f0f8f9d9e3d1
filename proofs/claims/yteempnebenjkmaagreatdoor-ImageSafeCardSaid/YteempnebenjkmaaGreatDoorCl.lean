/- Clones: as arrays all of which is elements; of arrays of ours. -/
import Derived.Test.YteempnebenjkmaaGreatDoorFz
import Derived.Test.YteempnebenjkmaaGreatDoorTw
namespace Go.Proofs.YteempnebenjkmaaGreatDoor
open Go.RowKit
set_option linter.unusedSimpArgs false
set_option maxRecDepth 100000
set_option linter.unusedVariables false
set_option linter.unusedSectionVars false
variable {T : Nat -> Type}
section
variable {C : Zaw T} {P : Program} {N N' : Nat} {ρ ρ' : Nat -> AV} {h : List (HI T)} {σ τ : St} {U U0 : Nat -> Prop}
end
end Go.Proofs.YteempnebenjkmaaGreatDoor
