/- Arrays of ours are lent to a call that only reads; rows that a call tells, as arrays. -/
import Derived.Test.YtaihdjknneiciaaGreatX16
namespace Go.Proofs.YtaihdjknneiciaaGreat
open Go.RowKit
set_option linter.unusedSimpArgs false
set_option maxRecDepth 100000
set_option linter.unusedVariables false
variable {T : Nat → Type}
section
variable {C : Codec T} {P : Program} {N N' : Nat} {ρ ρ' : Nat → AV} {h : List (HI T)} {σ τ : St} {U U0 : Nat → Prop}
open Classical in
section
variable {n m : Nat}
end
end
end Go.Proofs.YtaihdjknneiciaaGreat
