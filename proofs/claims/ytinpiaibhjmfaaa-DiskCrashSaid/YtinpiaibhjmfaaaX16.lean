/- slices.Clone, at any type. -/
import Derived.Test.YtinpiaibhjmfaaaX15
namespace Go.Proofs.Ytinpiaibhjmfaaa
open Go.RowKit
set_option maxRecDepth 100000
set_option linter.unusedVariables false
variable {T : Nat -> Type}
section
variable {C : Zav T} {P : Program}
end
end Go.Proofs.Ytinpiaibhjmfaaa
