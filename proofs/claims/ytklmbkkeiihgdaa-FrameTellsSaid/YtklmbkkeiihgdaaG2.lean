/- The laws. -/
import Derived.Test.YtklmbkkeiihgdaaMc
namespace Go.Proofs.Ytklmbkkeiihgdaa
open Go.RowKit
set_option maxRecDepth 100000
set_option linter.unusedVariables false
noncomputable def frameTells (x0 : List DFrame) (x1 : List UInt8) : Option (Bool × Unit) := open Classical in if x0.length ≤ 140737488355328 ∧ (∀ f ∈ x0, f.data.length ≤ 140737488355328) ∧ x1.length ≤ 140737488355328 then some (true, ()) else none
noncomputable def frameTells_ce : CE CT Try.prog where
  f := 3
  args := [.one (.sl 6), .one (.sl 1)]
  hs := []
  res := .val (.one .bool)
  outs := []
  m := fun d dh => frameTells d.1 d.2.1
  ok := fun d dh r hr => by
    unfold frameTells at hr
    split at hr
    · rename_i hc
      injection hr with hr
      subst hr
      exact frameTells_tr d.1 d.2.1 hc.1 hc.2.1 hc.2.2
    · cases hr
end Go.Proofs.Ytklmbkkeiihgdaa
