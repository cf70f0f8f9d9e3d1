/- Models, by program: what stands below. -/
import Derived.Test.YtlmmpfbdgiokmaaGreatTb
import Derived.Test.YtlmmpfbdgiokmaaGreatTs
import Derived.Test.YtlmmpfbdgiokmaaGreatCl
import Derived.Test.YtlmmpfbdgiokmaaGreatOv
import Derived.Test.YtlmmpfbdgiokmaaGreatCm
namespace Go.Proofs.YtlmmpfbdgiokmaaGreat
open Go.RowKit
set_option maxRecDepth 100000
set_option linter.unusedVariables false
noncomputable def Zf1 (x y : Nat × Nat × Nat) (xs ys : List (Zae)) : Option (Bool × ((List (Zae)) × (List (Zae)) × Unit)) :=
 if x.2.1 ≠ 0 /\ y.2.1 ≠ 0 then some (false, (xs, ys, ())) else none
noncomputable def Zol : CE CT Tryz.prog where
 f := 135
 args := [.one (.as 3 0), .one (.as 3 1)]
 hs := [.arr 48 3 true, .arr 48 3 true]
 res := .val (.one .bool)
 outs := [.arr 48 3 true, .arr 48 3 true]
 m := fun d dh => Zf1 d.1 d.2.1 dh.1 dh.2.1
 ok := fun d dh r hr => by
  unfold Zf1 at hr
  split at hr
  ·rename_i hc
   injection hr with hr
   subst hr
   exact ZrG (tS := 29) (tR := 4) (e := 48) (sz := 2) Tryz.func135 (by kernel_rfl) (by kernel_rfl) (by kernel_rfl) (by kernel_rfl) (ht := by kernel_rfl) (hsz := by kernel_rfl) hc.1 hc.2
  ·cases hr
def Zm5 : Nat -> Nat -> DrA
 | 11, _ => ⟨(List.range 9), [[], [], [], [1, 2], [0, 1, 2, 3], [], [], [5, 6], (List.range 8)], [], [], [], false, []⟩
 | 15, _ => ⟨(List.range 9), [[], [], [], [1, 2], [0, 1, 2, 3], [], [], [5, 6], (List.range 8)], [], [], [], false, []⟩
 | _, _ => ⟨[], [], [], [], [], false, []⟩
noncomputable def Zm6 : List (CE CT Tryz.prog) := [Zol]
noncomputable def Zm7 : List (LE CT Tryz.prog) := []
noncomputable def ZiM (x0 : Nat × Nat × Nat) (x1 : Int) (x2 : Nat × Nat × Nat) (h0 : List (Zae)) (h1 : List (Zae)) : Option ((Nat × Nat) × ((Unit) × (Unit) × (List (Zae)) × Unit)) :=
 (if 0 <= ((x1 : Int) : Int) /\ ((x1 : Int) : Int) <= ((x0.2.1 : Nat) : Int) /\ ((x0.2.1 : Nat) : Int) <= ((x0.2.2 : Nat) : Int) /\ ((x0.2.1 : Nat) : Int) <= 140737488355328 then
 (bif (decide ((((x2.2.1 : Nat) : Int) : Int) = 0)) then
 some ((x0.1, x0.2.1), ((), (), h0, ()))
 else
 (bif (decide ((x1 : Int) = ((x0.2.1 : Nat) : Int))) then
 (if x2.1 + x2.2.1 <= h1.length then
 (if (x0.2.1 + ((h1.drop x2.1).take x2.2.1).length) <= 140737488355328 /\ (x0.2.1 + ((h1.drop x2.1).take x2.2.1).length) * 32 <= 140737488355328 /\ x0.1 + x0.2.1 <= h0.length then
 (if (x0.2.1 + ((h1.drop x2.1).take x2.2.1).length) <= x0.2.2 then
 let y1 : List (Zae) := (h0.take (x0.1 + x0.2.1) ++ ((h1.drop x2.1).take x2.2.1) ++ h0.drop (x0.1 + x0.2.1 + ((h1.drop x2.1).take x2.2.1).length))
 some ((x0.1, (x0.2.1 + ((h1.drop x2.1).take x2.2.1).length)), ((), (), y1, ()))
 else
 some ((0, (x0.2.1 + ((h1.drop x2.1).take x2.2.1).length)), ((), (), ((h0.drop x0.1).take x0.2.1 ++ ((h1.drop x2.1).take x2.2.1)), ())))
 else none)
 else none)
 else
 (bif (decide ((((x0.2.2 : Nat) : Int) : Int) < (IntKind.i64.wrap (((x0.2.1 : Nat) : Int) + ((x2.2.1 : Nat) : Int))))) then
 (if 0 <= ((0 : Int) : Int) /\ ((0 : Int) : Int) <= (x1 : Int) /\ (x1 : Int) <= ((x0.2.2 : Nat) : Int) /\ (x1 : Int) <= 140737488355328 then
 (if (((x0.2.2 - (0 : Int).toNat) : Nat) : Int) < ((((x1 : Int).toNat - (0 : Int).toNat) : Nat) : Int) + (IntKind.i64.wrap ((IntKind.i64.wrap (((x0.2.1 : Nat) : Int) + ((x2.2.1 : Nat) : Int))) - x1)) /\ ((((x1 : Int).toNat - (0 : Int).toNat) : Nat) : Int) <= (((x0.2.2 - (0 : Int).toNat) : Nat) : Int) /\ ((((x1 : Int).toNat - (0 : Int).toNat) : Nat) : Int) + (IntKind.i64.wrap ((IntKind.i64.wrap (((x0.2.1 : Nat) : Int) + ((x2.2.1 : Nat) : Int))) - x1)) <= 140737488355328 /\ (((((x1 : Int).toNat - (0 : Int).toNat) : Nat) : Int) + (IntKind.i64.wrap ((IntKind.i64.wrap (((x0.2.1 : Nat) : Int) + ((x2.2.1 : Nat) : Int))) - x1))) * ((32 : Nat) : Int) <= 140737488355328 /\ (x0.1 + (0 : Int).toNat) + ((x1 : Int).toNat - (0 : Int).toNat) <= h0.length then
 let y2 : List (Zae) := ((h0.drop (x0.1 + (0 : Int).toNat)).take ((x1 : Int).toNat - (0 : Int).toNat))
 (if 0 <= ((x1 : Int) : Int) /\ ((x1 : Int) : Int) <= (((((x1 : Int).toNat - (0 : Int).toNat) + ((IntKind.i64.wrap ((IntKind.i64.wrap (((x0.2.1 : Nat) : Int) + ((x2.2.1 : Nat) : Int))) - x1)) : Int).toNat) : Nat) : Int) /\ (((((x1 : Int).toNat - (0 : Int).toNat) + ((IntKind.i64.wrap ((IntKind.i64.wrap (((x0.2.1 : Nat) : Int) + ((x2.2.1 : Nat) : Int))) - x1)) : Int).toNat) : Nat) : Int) <= (((((x1 : Int).toNat - (0 : Int).toNat) + ((IntKind.i64.wrap ((IntKind.i64.wrap (((x0.2.1 : Nat) : Int) + ((x2.2.1 : Nat) : Int))) - x1)) : Int).toNat) : Nat) : Int) /\ (((((x1 : Int).toNat - (0 : Int).toNat) + ((IntKind.i64.wrap ((IntKind.i64.wrap (((x0.2.1 : Nat) : Int) + ((x2.2.1 : Nat) : Int))) - x1)) : Int).toNat) : Nat) : Int) <= 140737488355328 then
 (if x2.1 + x2.2.1 <= h1.length then
 (if (0 + (x1 : Int).toNat) <= y2.length then
 let y3 : List (Zae) := (y2.take (0 + (x1 : Int).toNat) ++ ((h1.drop x2.1).take x2.2.1).take ((((((x1 : Int).toNat - (0 : Int).toNat) + ((IntKind.i64.wrap ((IntKind.i64.wrap (((x0.2.1 : Nat) : Int) + ((x2.2.1 : Nat) : Int))) - x1)) : Int).toNat) : Nat) : Int).toNat - (x1 : Int).toNat) ++ y2.drop ((0 + (x1 : Int).toNat) + min ((h1.drop x2.1).take x2.2.1).length ((((((x1 : Int).toNat - (0 : Int).toNat) + ((IntKind.i64.wrap ((IntKind.i64.wrap (((x0.2.1 : Nat) : Int) + ((x2.2.1 : Nat) : Int))) - x1)) : Int).toNat) : Nat) : Int).toNat - (x1 : Int).toNat)))
 (if 0 <= (((IntKind.i64.wrap (x1 + ((x2.2.1 : Nat) : Int))) : Int) : Int) /\ (((IntKind.i64.wrap (x1 + ((x2.2.1 : Nat) : Int))) : Int) : Int) <= (((((x1 : Int).toNat - (0 : Int).toNat) + ((IntKind.i64.wrap ((IntKind.i64.wrap (((x0.2.1 : Nat) : Int) + ((x2.2.1 : Nat) : Int))) - x1)) : Int).toNat) : Nat) : Int) /\ (((((x1 : Int).toNat - (0 : Int).toNat) + ((IntKind.i64.wrap ((IntKind.i64.wrap (((x0.2.1 : Nat) : Int) + ((x2.2.1 : Nat) : Int))) - x1)) : Int).toNat) : Nat) : Int) <= (((((x1 : Int).toNat - (0 : Int).toNat) + ((IntKind.i64.wrap ((IntKind.i64.wrap (((x0.2.1 : Nat) : Int) + ((x2.2.1 : Nat) : Int))) - x1)) : Int).toNat) : Nat) : Int) /\ (((((x1 : Int).toNat - (0 : Int).toNat) + ((IntKind.i64.wrap ((IntKind.i64.wrap (((x0.2.1 : Nat) : Int) + ((x2.2.1 : Nat) : Int))) - x1)) : Int).toNat) : Nat) : Int) <= 140737488355328 then
 (if 0 <= ((x1 : Int) : Int) /\ ((x1 : Int) : Int) <= ((x0.2.1 : Nat) : Int) /\ ((x0.2.1 : Nat) : Int) <= ((x0.2.2 : Nat) : Int) /\ ((x0.2.1 : Nat) : Int) <= 140737488355328 then
 (if (x0.1 + (x1 : Int).toNat) + (((x0.2.1 : Nat) : Int).toNat - (x1 : Int).toNat) <= h0.length then
 let y4 : List (Zae) := ((h0.drop (x0.1 + (x1 : Int).toNat)).take (((x0.2.1 : Nat) : Int).toNat - (x1 : Int).toNat))
 (if (0 + ((IntKind.i64.wrap (x1 + ((x2.2.1 : Nat) : Int))) : Int).toNat) <= y3.length then
 let y5 : List (Zae) := (y3.take (0 + ((IntKind.i64.wrap (x1 + ((x2.2.1 : Nat) : Int))) : Int).toNat) ++ y4.take ((((((x1 : Int).toNat - (0 : Int).toNat) + ((IntKind.i64.wrap ((IntKind.i64.wrap (((x0.2.1 : Nat) : Int) + ((x2.2.1 : Nat) : Int))) - x1)) : Int).toNat) : Nat) : Int).toNat - ((IntKind.i64.wrap (x1 + ((x2.2.1 : Nat) : Int))) : Int).toNat) ++ y3.drop ((0 + ((IntKind.i64.wrap (x1 + ((x2.2.1 : Nat) : Int))) : Int).toNat) + min y4.length ((((((x1 : Int).toNat - (0 : Int).toNat) + ((IntKind.i64.wrap ((IntKind.i64.wrap (((x0.2.1 : Nat) : Int) + ((x2.2.1 : Nat) : Int))) - x1)) : Int).toNat) : Nat) : Int).toNat - ((IntKind.i64.wrap (x1 + ((x2.2.1 : Nat) : Int))) : Int).toNat)))
 some ((0, (((x1 : Int).toNat - (0 : Int).toNat) + ((IntKind.i64.wrap ((IntKind.i64.wrap (((x0.2.1 : Nat) : Int) + ((x2.2.1 : Nat) : Int))) - x1)) : Int).toNat)), ((), (), y5, ()))
 else none)
 else none)
 else none)
 else none)
 else none)
 else none)
 else none)
 else none)
 else none)
 else
 (if 0 <= ((0 : Int) : Int) /\ ((0 : Int) : Int) <= ((IntKind.i64.wrap (((x0.2.1 : Nat) : Int) + ((x2.2.1 : Nat) : Int))) : Int) /\ ((IntKind.i64.wrap (((x0.2.1 : Nat) : Int) + ((x2.2.1 : Nat) : Int))) : Int) <= ((x0.2.2 : Nat) : Int) /\ ((IntKind.i64.wrap (((x0.2.1 : Nat) : Int) + ((x2.2.1 : Nat) : Int))) : Int) <= 140737488355328 then
 (if 0 <= (((IntKind.i64.wrap (x1 + ((x2.2.1 : Nat) : Int))) : Int) : Int) /\ (((IntKind.i64.wrap (x1 + ((x2.2.1 : Nat) : Int))) : Int) : Int) <= (((((IntKind.i64.wrap (((x0.2.1 : Nat) : Int) + ((x2.2.1 : Nat) : Int))) : Int).toNat - (0 : Int).toNat) : Nat) : Int) /\ (((((IntKind.i64.wrap (((x0.2.1 : Nat) : Int) + ((x2.2.1 : Nat) : Int))) : Int).toNat - (0 : Int).toNat) : Nat) : Int) <= (((x0.2.2 - (0 : Int).toNat) : Nat) : Int) /\ (((((IntKind.i64.wrap (((x0.2.1 : Nat) : Int) + ((x2.2.1 : Nat) : Int))) : Int).toNat - (0 : Int).toNat) : Nat) : Int) <= 140737488355328 then
 (Zf1 (x2.1, x2.2.1, x2.2.2) (((x0.1 + (0 : Int).toNat) + ((IntKind.i64.wrap (x1 + ((x2.2.1 : Nat) : Int))) : Int).toNat), ((((((IntKind.i64.wrap (((x0.2.1 : Nat) : Int) + ((x2.2.1 : Nat) : Int))) : Int).toNat - (0 : Int).toNat) : Nat) : Int).toNat - ((IntKind.i64.wrap (x1 + ((x2.2.1 : Nat) : Int))) : Int).toNat), ((x0.2.2 - (0 : Int).toNat) - ((IntKind.i64.wrap (x1 + ((x2.2.1 : Nat) : Int))) : Int).toNat)) h1 h0).bind fun r6 =>
 (bif (!r6.1) then
 (if 0 <= (((IntKind.i64.wrap (x1 + ((x2.2.1 : Nat) : Int))) : Int) : Int) /\ (((IntKind.i64.wrap (x1 + ((x2.2.1 : Nat) : Int))) : Int) : Int) <= (((((IntKind.i64.wrap (((x0.2.1 : Nat) : Int) + ((x2.2.1 : Nat) : Int))) : Int).toNat - (0 : Int).toNat) : Nat) : Int) /\ (((((IntKind.i64.wrap (((x0.2.1 : Nat) : Int) + ((x2.2.1 : Nat) : Int))) : Int).toNat - (0 : Int).toNat) : Nat) : Int) <= (((x0.2.2 - (0 : Int).toNat) : Nat) : Int) /\ (((((IntKind.i64.wrap (((x0.2.1 : Nat) : Int) + ((x2.2.1 : Nat) : Int))) : Int).toNat - (0 : Int).toNat) : Nat) : Int) <= 140737488355328 then
 (if 0 <= ((x1 : Int) : Int) /\ ((x1 : Int) : Int) <= (((((IntKind.i64.wrap (((x0.2.1 : Nat) : Int) + ((x2.2.1 : Nat) : Int))) : Int).toNat - (0 : Int).toNat) : Nat) : Int) /\ (((((IntKind.i64.wrap (((x0.2.1 : Nat) : Int) + ((x2.2.1 : Nat) : Int))) : Int).toNat - (0 : Int).toNat) : Nat) : Int) <= (((x0.2.2 - (0 : Int).toNat) : Nat) : Int) /\ (((((IntKind.i64.wrap (((x0.2.1 : Nat) : Int) + ((x2.2.1 : Nat) : Int))) : Int).toNat - (0 : Int).toNat) : Nat) : Int) <= 140737488355328 then
 (if ((x0.1 + (0 : Int).toNat) + (x1 : Int).toNat) + ((((((IntKind.i64.wrap (((x0.2.1 : Nat) : Int) + ((x2.2.1 : Nat) : Int))) : Int).toNat - (0 : Int).toNat) : Nat) : Int).toNat - (x1 : Int).toNat) <= r6.2.2.1.length then
 let y7 : List (Zae) := ((r6.2.2.1.drop ((x0.1 + (0 : Int).toNat) + (x1 : Int).toNat)).take ((((((IntKind.i64.wrap (((x0.2.1 : Nat) : Int) + ((x2.2.1 : Nat) : Int))) : Int).toNat - (0 : Int).toNat) : Nat) : Int).toNat - (x1 : Int).toNat))
 (if ((x0.1 + (0 : Int).toNat) + ((IntKind.i64.wrap (x1 + ((x2.2.1 : Nat) : Int))) : Int).toNat) <= r6.2.2.1.length then
 let y8 : List (Zae) := (r6.2.2.1.take ((x0.1 + (0 : Int).toNat) + ((IntKind.i64.wrap (x1 + ((x2.2.1 : Nat) : Int))) : Int).toNat) ++ y7.take ((((((IntKind.i64.wrap (((x0.2.1 : Nat) : Int) + ((x2.2.1 : Nat) : Int))) : Int).toNat - (0 : Int).toNat) : Nat) : Int).toNat - ((IntKind.i64.wrap (x1 + ((x2.2.1 : Nat) : Int))) : Int).toNat) ++ r6.2.2.1.drop (((x0.1 + (0 : Int).toNat) + ((IntKind.i64.wrap (x1 + ((x2.2.1 : Nat) : Int))) : Int).toNat) + min y7.length ((((((IntKind.i64.wrap (((x0.2.1 : Nat) : Int) + ((x2.2.1 : Nat) : Int))) : Int).toNat - (0 : Int).toNat) : Nat) : Int).toNat - ((IntKind.i64.wrap (x1 + ((x2.2.1 : Nat) : Int))) : Int).toNat)))
 (if 0 <= ((x1 : Int) : Int) /\ ((x1 : Int) : Int) <= (((((IntKind.i64.wrap (((x0.2.1 : Nat) : Int) + ((x2.2.1 : Nat) : Int))) : Int).toNat - (0 : Int).toNat) : Nat) : Int) /\ (((((IntKind.i64.wrap (((x0.2.1 : Nat) : Int) + ((x2.2.1 : Nat) : Int))) : Int).toNat - (0 : Int).toNat) : Nat) : Int) <= (((x0.2.2 - (0 : Int).toNat) : Nat) : Int) /\ (((((IntKind.i64.wrap (((x0.2.1 : Nat) : Int) + ((x2.2.1 : Nat) : Int))) : Int).toNat - (0 : Int).toNat) : Nat) : Int) <= 140737488355328 then
 (if x2.1 + x2.2.1 <= r6.2.1.length then
 (if ((x0.1 + (0 : Int).toNat) + (x1 : Int).toNat) <= y8.length then
 let y9 : List (Zae) := (y8.take ((x0.1 + (0 : Int).toNat) + (x1 : Int).toNat) ++ ((r6.2.1.drop x2.1).take x2.2.1).take ((((((IntKind.i64.wrap (((x0.2.1 : Nat) : Int) + ((x2.2.1 : Nat) : Int))) : Int).toNat - (0 : Int).toNat) : Nat) : Int).toNat - (x1 : Int).toNat) ++ y8.drop (((x0.1 + (0 : Int).toNat) + (x1 : Int).toNat) + min ((r6.2.1.drop x2.1).take x2.2.1).length ((((((IntKind.i64.wrap (((x0.2.1 : Nat) : Int) + ((x2.2.1 : Nat) : Int))) : Int).toNat - (0 : Int).toNat) : Nat) : Int).toNat - (x1 : Int).toNat)))
 some (((x0.1 + (0 : Int).toNat), (((IntKind.i64.wrap (((x0.2.1 : Nat) : Int) + ((x2.2.1 : Nat) : Int))) : Int).toNat - (0 : Int).toNat)), ((), (), y9, ()))
 else none)
 else none)
 else none)
 else none)
 else none)
 else none)
 else none)
 else
 (if 0 <= ((((x0.2.1 : Nat) : Int) : Int) : Int) /\ ((((x0.2.1 : Nat) : Int) : Int) : Int) <= (((((IntKind.i64.wrap (((x0.2.1 : Nat) : Int) + ((x2.2.1 : Nat) : Int))) : Int).toNat - (0 : Int).toNat) : Nat) : Int) /\ (((((IntKind.i64.wrap (((x0.2.1 : Nat) : Int) + ((x2.2.1 : Nat) : Int))) : Int).toNat - (0 : Int).toNat) : Nat) : Int) <= (((x0.2.2 - (0 : Int).toNat) : Nat) : Int) /\ (((((IntKind.i64.wrap (((x0.2.1 : Nat) : Int) + ((x2.2.1 : Nat) : Int))) : Int).toNat - (0 : Int).toNat) : Nat) : Int) <= 140737488355328 then
 (if x2.1 + x2.2.1 <= r6.2.1.length then
 (if ((x0.1 + (0 : Int).toNat) + (((x0.2.1 : Nat) : Int) : Int).toNat) <= r6.2.2.1.length then
 let y10 : List (Zae) := (r6.2.2.1.take ((x0.1 + (0 : Int).toNat) + (((x0.2.1 : Nat) : Int) : Int).toNat) ++ ((r6.2.1.drop x2.1).take x2.2.1).take ((((((IntKind.i64.wrap (((x0.2.1 : Nat) : Int) + ((x2.2.1 : Nat) : Int))) : Int).toNat - (0 : Int).toNat) : Nat) : Int).toNat - (((x0.2.1 : Nat) : Int) : Int).toNat) ++ r6.2.2.1.drop (((x0.1 + (0 : Int).toNat) + (((x0.2.1 : Nat) : Int) : Int).toNat) + min ((r6.2.1.drop x2.1).take x2.2.1).length ((((((IntKind.i64.wrap (((x0.2.1 : Nat) : Int) + ((x2.2.1 : Nat) : Int))) : Int).toNat - (0 : Int).toNat) : Nat) : Int).toNat - (((x0.2.1 : Nat) : Int) : Int).toNat)))
 (if 0 <= ((x1 : Int) : Int) /\ ((x1 : Int) : Int) <= (((((IntKind.i64.wrap (((x0.2.1 : Nat) : Int) + ((x2.2.1 : Nat) : Int))) : Int).toNat - (0 : Int).toNat) : Nat) : Int) /\ (((((IntKind.i64.wrap (((x0.2.1 : Nat) : Int) + ((x2.2.1 : Nat) : Int))) : Int).toNat - (0 : Int).toNat) : Nat) : Int) <= (((x0.2.2 - (0 : Int).toNat) : Nat) : Int) /\ (((((IntKind.i64.wrap (((x0.2.1 : Nat) : Int) + ((x2.2.1 : Nat) : Int))) : Int).toNat - (0 : Int).toNat) : Nat) : Int) <= 140737488355328 then
 none
 else none)
 else none)
 else none)
 else none))
 else none)
 else none))))
 else none)
noncomputable def Zm8 : CE CT Tryz.prog where
 f := 94
 args := [.one (.as 3 0), .one (.int .i64), .one (.as 3 1)]
 hs := [.arr 48 3 false, .arr 48 3 false]
 res := .val (.one (.asu 3 2))
 outs := [.dead, .dead, .arr 48 3 false]
 m := fun d dh => ZiM d.1 d.2.1 d.2.2.1 dh.1 dh.2.1
 ok := ZaN Zan Tryz.func94 (by kernel_rfl) (Zad Zm6) (dr := Zm5) (lps := Zaq Zm7) (Zao (Zai (by kernel_rfl))) (fun d dh => by kernel_rfl)
def Zm9 : Nat -> Nat -> DrA
 | 5, _ => ⟨(List.range 8), [[], [], [0, 1], [], [], [3, 4], (List.range 6), (List.range 7)], [], [], [], false, []⟩
 | _, _ => ⟨[], [], [], [], [], false, []⟩
noncomputable def Zna : List (CE CT Tryz.prog) := []
noncomputable def Znb : List (LE CT Tryz.prog) := []
noncomputable def ZiN (x0 : Nat × Nat × Nat) (x1 : Int) (x2 : Int) (h0 : List (Zae)) : Option ((Nat × Nat) × ((Unit) × (List (Zae)) × Unit)) :=
 (if 0 <= (x1 : Int) /\ (x1 : Int) <= x2 /\ (x2 : Int) <= ((x0.2.1 : Nat) : Int) /\ ((x0.2.1 : Nat) : Int) <= ((x0.2.2 : Nat) : Int) then
 (bif (decide ((x1 : Int) = x2)) then
 some ((x0.1, x0.2.1), ((), h0, ()))
 else
 (if 0 <= ((0 : Int) : Int) /\ ((0 : Int) : Int) <= (x1 : Int) /\ (x1 : Int) <= ((x0.2.2 : Nat) : Int) /\ (x1 : Int) <= 140737488355328 then
 (if 0 <= ((x2 : Int) : Int) /\ ((x2 : Int) : Int) <= ((x0.2.1 : Nat) : Int) /\ ((x0.2.1 : Nat) : Int) <= ((x0.2.2 : Nat) : Int) /\ ((x0.2.1 : Nat) : Int) <= 140737488355328 then
 (if (x0.1 + (x2 : Int).toNat) + (((x0.2.1 : Nat) : Int).toNat - (x2 : Int).toNat) <= h0.length then
 let y1 : List (Zae) := ((h0.drop (x0.1 + (x2 : Int).toNat)).take (((x0.2.1 : Nat) : Int).toNat - (x2 : Int).toNat))
 (if (((x1 : Int).toNat - (0 : Int).toNat) + y1.length) <= 140737488355328 /\ (((x1 : Int).toNat - (0 : Int).toNat) + y1.length) * 32 <= 140737488355328 /\ (x0.1 + (0 : Int).toNat) + ((x1 : Int).toNat - (0 : Int).toNat) <= h0.length then
 (if (((x1 : Int).toNat - (0 : Int).toNat) + y1.length) <= (x0.2.2 - (0 : Int).toNat) then
 let y2 : List (Zae) := (h0.take ((x0.1 + (0 : Int).toNat) + ((x1 : Int).toNat - (0 : Int).toNat)) ++ y1 ++ h0.drop ((x0.1 + (0 : Int).toNat) + ((x1 : Int).toNat - (0 : Int).toNat) + y1.length))
 (if 0 <= (((((((x1 : Int).toNat - (0 : Int).toNat) + y1.length) : Nat) : Int) : Int) : Int) /\ (((((((x1 : Int).toNat - (0 : Int).toNat) + y1.length) : Nat) : Int) : Int) : Int) <= (((x0.2.1 : Nat) : Int) : Int) /\ (((x0.2.1 : Nat) : Int) : Int) <= (((x0.2.2 - (0 : Int).toNat) : Nat) : Int) /\ (((x0.2.1 : Nat) : Int) : Int) <= 140737488355328 then
 (if ((x0.1 + (0 : Int).toNat) + ((((((x1 : Int).toNat - (0 : Int).toNat) + y1.length) : Nat) : Int) : Int).toNat) <= y2.length then
 let y3 : List (Zae) := (y2.take ((x0.1 + (0 : Int).toNat) + ((((((x1 : Int).toNat - (0 : Int).toNat) + y1.length) : Nat) : Int) : Int).toNat) ++ List.replicate ((((x0.2.1 : Nat) : Int) : Int).toNat - ((((((x1 : Int).toNat - (0 : Int).toNat) + y1.length) : Nat) : Int) : Int).toNat) ((⟨([] : List UInt8), ([] : List UInt8)⟩ : Zae) : Zae) ++ y2.drop (((x0.1 + (0 : Int).toNat) + ((((((x1 : Int).toNat - (0 : Int).toNat) + y1.length) : Nat) : Int) : Int).toNat) + ((((x0.2.1 : Nat) : Int) : Int).toNat - ((((((x1 : Int).toNat - (0 : Int).toNat) + y1.length) : Nat) : Int) : Int).toNat)))
 some (((x0.1 + (0 : Int).toNat), (((x1 : Int).toNat - (0 : Int).toNat) + y1.length)), ((), y3, ()))
 else none)
 else none)
 else
 let y4 : List (Zae) := ((h0.drop (x0.1 + (0 : Int).toNat)).take ((x1 : Int).toNat - (0 : Int).toNat) ++ y1)
 (if 0 <= (((((((x1 : Int).toNat - (0 : Int).toNat) + y1.length) : Nat) : Int) : Int) : Int) /\ (((((((x1 : Int).toNat - (0 : Int).toNat) + y1.length) : Nat) : Int) : Int) : Int) <= (((x0.2.1 : Nat) : Int) : Int) /\ (((x0.2.1 : Nat) : Int) : Int) <= (((((x1 : Int).toNat - (0 : Int).toNat) + y1.length) : Nat) : Int) /\ (((x0.2.1 : Nat) : Int) : Int) <= 140737488355328 then
 (if (0 + ((((((x1 : Int).toNat - (0 : Int).toNat) + y1.length) : Nat) : Int) : Int).toNat) <= y4.length then
 let y5 : List (Zae) := (y4.take (0 + ((((((x1 : Int).toNat - (0 : Int).toNat) + y1.length) : Nat) : Int) : Int).toNat) ++ List.replicate ((((x0.2.1 : Nat) : Int) : Int).toNat - ((((((x1 : Int).toNat - (0 : Int).toNat) + y1.length) : Nat) : Int) : Int).toNat) ((⟨([] : List UInt8), ([] : List UInt8)⟩ : Zae) : Zae) ++ y4.drop ((0 + ((((((x1 : Int).toNat - (0 : Int).toNat) + y1.length) : Nat) : Int) : Int).toNat) + ((((x0.2.1 : Nat) : Int) : Int).toNat - ((((((x1 : Int).toNat - (0 : Int).toNat) + y1.length) : Nat) : Int) : Int).toNat)))
 some ((0, (((x1 : Int).toNat - (0 : Int).toNat) + y1.length)), ((), y5, ()))
 else none)
 else none))
 else none)
 else none)
 else none)
 else none))
 else none)
noncomputable def Znc : CE CT Tryz.prog where
 f := 49
 args := [.one (.as 3 0), .one (.int .i64), .one (.int .i64)]
 hs := [.arr 48 3 false]
 res := .val (.one (.asu 3 1))
 outs := [.dead, .arr 48 3 false]
 m := fun d dh => ZiN d.1 d.2.1 d.2.2.1 dh.1
 ok := ZaN Zan Tryz.func49 (by kernel_rfl) (Zad Zna) (dr := Zm9) (lps := Zaq Znb) (Zao (Zai (by kernel_rfl))) (fun d dh => by kernel_rfl)
def Zh6 : Nat -> Nat -> DrA
 | _, _ => ⟨[], [], [], [], [], false, []⟩
noncomputable def Zh7 : List (CE CT Tryz.prog) := []
noncomputable def Zh8 : List (LE CT Tryz.prog) := []
noncomputable def Zdi (x0 : Int) (x1 : Int) : Option ((List UInt8) × (Unit)) :=
 (b8 35).bind fun u1 =>
 (b8 (IntKind.u8.wrap x0)).bind fun u2 =>
 (b8 (IntKind.u8.wrap ((x0 : Int).fdiv (2 ^ min (8 : Int).toNat (IntKind.i64.bits))))).bind fun u3 =>
 (b8 (IntKind.u8.wrap ((x0 : Int).fdiv (2 ^ min (16 : Int).toNat (IntKind.i64.bits))))).bind fun u4 =>
 (b8 47).bind fun u5 =>
 (b8 (IntKind.u8.wrap x1)).bind fun u6 =>
 (b8 (IntKind.u8.wrap ((x1 : Int).fdiv (2 ^ min (8 : Int).toNat (IntKind.i64.bits))))).bind fun u7 =>
 (b8 (IntKind.u8.wrap ((x1 : Int).fdiv (2 ^ min (16 : Int).toNat (IntKind.i64.bits))))).bind fun u8 =>
 some (([u1, u2, u3, u4, u5, u6, u7, u8] : List (UInt8)), ())
noncomputable def Zh9 : CE CT Tryz.prog where
 f := 100
 args := [.one (.int .i64), .one (.int .i64)]
 hs := []
 res := .val (.one (.str))
 outs := []
 m := fun d dh => Zdi d.1 d.2.1
 ok := ZaN Zan Tryz.func100 (by kernel_rfl) (Zad Zh7) (dr := Zh6) (lps := Zaq Zh8) (Zao (Zai (by kernel_rfl))) (fun d dh => by kernel_rfl)
def ZiO : Nat -> Nat -> DrA
 | _, _ => ⟨[], [], [], [], [], false, []⟩
noncomputable def ZiP : List (CE CT Tryz.prog) := [Zh9]
noncomputable def ZiQ : List (LE CT Tryz.prog) := []
noncomputable def ZaJ (x0 : Int) (x1 : Int) : Option ((Zae) × (Unit)) :=
 (Zdi x0 x1).bind fun r1 =>
 some ((⟨r1.1, ([] : List UInt8)⟩ : Zae), ())
noncomputable def ZdS : CE CT Tryz.prog where
 f := 52
 args := [.one (.int .i64), .one (.int .i64)]
 hs := []
 res := .val (.cod 3)
 outs := []
 m := fun d dh => ZaJ d.1 d.2.1
 ok := ZaN Zan Tryz.func52 (by kernel_rfl) (Zad ZiP) (dr := ZiO) (lps := Zaq ZiQ) (Zao (Zai (by kernel_rfl))) (fun d dh => by kernel_rfl)
end Go.Proofs.YtlmmpfbdgiokmaaGreat
