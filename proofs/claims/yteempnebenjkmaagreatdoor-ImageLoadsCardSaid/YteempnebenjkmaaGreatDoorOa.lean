/- Arrays of unknown room that a call writes over: what is known of them is gone. -/
import Derived.Test.YteempnebenjkmaaGreatDoorMc
namespace Go.Proofs.YteempnebenjkmaaGreatDoor
open Go.RowKit
set_option linter.unusedSimpArgs false
set_option maxRecDepth 100000
set_option linter.unusedVariables false
variable {T : Nat -> Type}
section
variable {C : ZaA T} {P : Program} {ρ ρ' : Nat -> AV} {σ τ : St} {e : TypeId} {kp : Bool} {E S : Nat}
end
end Go.Proofs.YteempnebenjkmaaGreatDoor
