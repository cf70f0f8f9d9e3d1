/- The laws. -/
import Derived.Test.YtinpiaibhjmfaaaDy
namespace Go.Proofs.Ytinpiaibhjmfaaa
open Go.RowKit
set_option maxRecDepth 100000
set_option linter.unusedVariables false
noncomputable def diskAppends (x0 : List (List UInt8)) (x1 : List Bool) (x2 : Int) : Option (Bool × Unit) := open Classical in if ok_LLUInt8 x0 ∧ x1.length ≤ 140737488355328 ∧ InK .i64 x2 then some (true, ()) else none
noncomputable def diskAppends_ce : CE CT Try.prog where
  f := 3
  args := [.one (.sl 3), .one (.sl 7), .one (.int .i64)]
  hs := []
  res := .val (.one .bool)
  outs := []
  m := fun d dh => diskAppends d.1 d.2.1 d.2.2.1
  ok := fun d dh r hr => by
    unfold diskAppends at hr
    split at hr
    · rename_i hc
      injection hr with hr
      subst hr
      exact diskAppends_tr d.1 d.2.1 d.2.2.1 hc.1 hc.2.1 hc.2.2
    · cases hr
theorem DiskAppends_p (x0 : List (List UInt8)) (x1 : List Bool) (x2 : Int) (k0 : ok_LLUInt8 x0) (k1 : ok_LBool x1) (k2 : ok_Ii64 x2) : diskAppends x0 x1 x2 = some (true, ()) := by
  unfold diskAppends
  rw [if_pos ⟨k0, k1.len, k2⟩]
end Go.Proofs.Ytinpiaibhjmfaaa
