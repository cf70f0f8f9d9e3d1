/- A call that reads rows of bytes and tells a number, as walked: its contract. -/
import Derived.Test.YtmffcfjdacoigaaGreatWr
import Derived.Test.YtmffcfjdacoigaaGreatFx
namespace Go.Proofs.YtmffcfjdacoigaaGreat
open Go.RowKit
set_option linter.unusedSimpArgs false
set_option maxRecDepth 100000
set_option linter.unusedVariables false
set_option linter.unusedSectionVars false
section
variable {T : Nat → Type} {C : Codec T} {P : Program} {N : Nat} {ρ : Nat → AV} {w : World} {B : Nat → Nat → Prop}
variable {Eb : Nat} {tb : T Eb → UInt8} (hb : ∀ x, C.enc Eb x = [.int .u8 ((tb x).toNat : Int)])
include hb
variable {Er : Nat} {tr : T Er → List (T Eb)} (hr : ∀ x, C.enc Er x = [.sl Eb (tr x) none])
include hr
end
section
variable {T : Nat → Type} {C : Codec T} {P : Program}
end
end Go.Proofs.YtmffcfjdacoigaaGreat
