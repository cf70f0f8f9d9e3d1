/- Maps from texts to objects, for walks by hand. -/
import Derived.Test.YtmffcfjdacoigaaGreatHx
namespace Go.Proofs.YtmffcfjdacoigaaGreat
open Go.RowKit
set_option linter.unusedSimpArgs false
set_option maxRecDepth 100000
set_option linter.unusedVariables false
/-- A map's entries: names, and objects by their blocks. -/
abbrev Dir := List (List UInt8 × Nat)
section
variable {P : Program}
end
section
variable {P : Program} {ops : Array Oper} {env : Env} {σ τ : St} {K : Env → St → Prop} {d : Option Nat} {ty ty' t kt et : TypeId} {pos : String} {af : Array Edge} {x y z : Operand} {b n : Nat} {es : Dir} {k : List UInt8}
end
end Go.Proofs.YtmffcfjdacoigaaGreat
