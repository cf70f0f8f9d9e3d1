/- The laws. -/
import Derived.Test.YtinpiaibhjmfaaaDce
namespace Go.Proofs.Ytinpiaibhjmfaaa
open Go.RowKit
set_option maxRecDepth 100000
set_option linter.unusedVariables false
noncomputable def ZgN (x0 : Int) (x1 : List Zc1) (x2 x3 : Int) : Option (Bool × Unit) := open Classical in if ((∀ x ∈ x1, Zfv x) /\ x1.length <= 140737488355328) /\ InK .i64 x2 /\ InK .i64 x3 then some (true, ()) else none
noncomputable def Zlz : CE CT Try.prog where
 f := 6
 args := [.one (.int .i64), .one (.sl 6), .one (.int .i64), .one (.int .i64)]
 hs := []
 res := .val (.one .bool)
 outs := []
 m := fun d dh => ZgN d.1 d.2.1 d.2.2.1 d.2.2.2.1
 ok := fun d dh r hr => by
  unfold ZgN at hr
  split at hr
  ·rename_i hc
   injection hr with hr
   subst hr
   exact Zly d.1 d.2.1 d.2.2.1 d.2.2.2.1 hc.1 hc.2.1 hc.2.2
  ·cases hr
theorem Zmv (x0 : Int) (x1 : List Zc1) (x2 : Int) (x3 : Int) (k0 : Zg8 x0) (k1 : Zlc x1) (k2 : Zg8 x2) (k3 : Zg8 x3) : ZgN x0 x1 x2 x3 = some (true, ()) := by
 unfold ZgN
 rw [if_pos ⟨⟨fun x hx => k1.all x hx, k1.len⟩, k2, k3⟩]
end Go.Proofs.Ytinpiaibhjmfaaa
