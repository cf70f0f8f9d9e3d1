/- Models, by program: what stands below. -/
import Derived.Test.YtaihdjknneiciaaGreatSeqT
import Derived.Test.YtaihdjknneiciaaGreatFz
import Derived.Test.YtaihdjknneiciaaGreatOv
namespace Go.Proofs.YtaihdjknneiciaaGreat
noncomputable section
open Go.RowKit
set_option maxRecDepth 100000
set_option linter.unusedVariables false
def Zd2 (x : Nat × Nat × Nat) (ys xs : List (Zaf)) : Option (Bool × ((List (Zaf)) × Unit)) :=
 if x.2.1 ≠ 0 /\ ys.length ≠ 0 then some (false, (xs, ())) else none
def ZsI : CEp where
 f := 252
 args := [.one (.as 5 0), .one (.sl 5)]
 hs := [.arr 99 5 true]
 res := .val (.one .bool)
 outs := [.arr 99 5 true]
 m := fun d dh => Zd2 d.1 d.2.1 dh.1
 ok := fun d dh r hr => by
  unfold Zd2 at hr
  split at hr
  ·rename_i hc
   injection hr with hr
   subst hr
   exact Zxx (tS := 27) (tR := 4) (e := 99) (sz := 4) Tryz.func252 (by kernel_rfl) (by kernel_rfl) (by kernel_rfl) (by kernel_rfl) (ht := by kernel_rfl) (hsz := by kernel_rfl) hc.1 hc.2
  ·cases hr
def ZnU : Nat -> Nat -> DrA
 | 9, _ => ⟨(List.range 13), [[], [], [0, 1], [0, 1, 2], [], [4], (List.range 6), [], [], [7, 8], [7, 8, 9], (List.range 11), (List.range 12)], [], [], [], false, []⟩
 | 13, _ => ⟨(List.range 10), [[], [], [], [2], [1, 2, 3], (List.range 5), [], [], [6, 7], (List.range 9)], [], [], [], false, []⟩
 | 18, _ => ⟨(List.range 10), [[], [], [], [2], [1, 2, 3], (List.range 5), [], [], [6, 7], (List.range 9)], [], [], [], false, []⟩
 | 22, _ => ⟨(List.range 10), [[], [], [], [2], [1, 2, 3], (List.range 5), [], [], [6, 7], (List.range 9)], [], [], [], false, []⟩
 | 27, _ => ⟨(List.range 8), [[], [], [], [0, 1, 2], [], [], [4, 5], (List.range 7)], [], [], [], false, []⟩
 | 28, _ => ⟨(List.range 8), [[], [], [1], [0, 1, 2], [], [], [4, 5], (List.range 7)], [], [], [], false, []⟩
 | 32, _ => ⟨(List.range 8), [[], [], [1], [0, 1, 2], [], [], [4, 5], (List.range 7)], [], [], [], false, []⟩
 | 33, _ => ⟨(List.range 8), [[], [], [], [0, 1, 2], [], [], [4, 5], (List.range 7)], [], [], [], false, []⟩
 | _, _ => ⟨[], [], [], [], [], false, []⟩
def ZnV : List (CEp) := [ZsI]
def ZhM (x0 : Nat × Nat × Nat) (x1 : Int) (x2 : Int) (x3 : List (Zaf)) (h0 : List (Zaf)) : Option ((Nat × Nat) × (Unit × (List (Zaf)) × Unit)) :=
 (if 0 <= ((x1 : Int) : Int) /\ ((x1 : Int) : Int) <= (x2 : Int) /\ (x2 : Int) <= ((x0.2.2 : Nat) : Int) /\ (x2 : Int) <= 140737488355328 then
 (bif (decide ((x1 : Int) = x2)) then
 none
 else
 (bif (decide ((x2 : Int) = ((x0.2.1 : Nat) : Int))) then
 (if 0 <= ((0 : Int) : Int) /\ ((0 : Int) : Int) <= (x1 : Int) /\ (x1 : Int) <= ((x0.2.2 : Nat) : Int) /\ (x1 : Int) <= 140737488355328 then
 (if (((x1 : Int).toNat - (0 : Int).toNat) + x3.length) <= 140737488355328 /\ (((x1 : Int).toNat - (0 : Int).toNat) + x3.length) * 48 <= 140737488355328 /\ (x0.1 + (0 : Int).toNat) + ((x1 : Int).toNat - (0 : Int).toNat) <= h0.length then
 (if (((x1 : Int).toNat - (0 : Int).toNat) + x3.length) <= (x0.2.2 - (0 : Int).toNat) then
 let y1 : List (Zaf) := (h0.take ((x0.1 + (0 : Int).toNat) + ((x1 : Int).toNat - (0 : Int).toNat)) ++ x3 ++ h0.drop ((x0.1 + (0 : Int).toNat) + ((x1 : Int).toNat - (0 : Int).toNat) + x3.length))
 (bif (decide (((((((x1 : Int).toNat - (0 : Int).toNat) + x3.length) : Nat) : Int) : Int) < ((x0.2.1 : Nat) : Int))) then
 (if 0 <= (((((((x1 : Int).toNat - (0 : Int).toNat) + x3.length) : Nat) : Int) : Int) : Int) /\ (((((((x1 : Int).toNat - (0 : Int).toNat) + x3.length) : Nat) : Int) : Int) : Int) <= ((x0.2.1 : Nat) : Int) /\ ((x0.2.1 : Nat) : Int) <= ((x0.2.2 : Nat) : Int) /\ ((x0.2.1 : Nat) : Int) <= 140737488355328 then
 (if (x0.1 + ((((((x1 : Int).toNat - (0 : Int).toNat) + x3.length) : Nat) : Int) : Int).toNat) <= y1.length then
 let y2 : List (Zaf) := (y1.take (x0.1 + ((((((x1 : Int).toNat - (0 : Int).toNat) + x3.length) : Nat) : Int) : Int).toNat) ++ List.replicate (((x0.2.1 : Nat) : Int).toNat - ((((((x1 : Int).toNat - (0 : Int).toNat) + x3.length) : Nat) : Int) : Int).toNat) ((⟨(⟨([] : List UInt8), ([] : List UInt8)⟩ : Zao), 0, 0⟩ : Zaf) : Zaf) ++ y1.drop ((x0.1 + ((((((x1 : Int).toNat - (0 : Int).toNat) + x3.length) : Nat) : Int) : Int).toNat) + (((x0.2.1 : Nat) : Int).toNat - ((((((x1 : Int).toNat - (0 : Int).toNat) + x3.length) : Nat) : Int) : Int).toNat)))
 some (((x0.1 + (0 : Int).toNat), (((x1 : Int).toNat - (0 : Int).toNat) + x3.length)), ((), y2, ()))
 else none)
 else none)
 else
 some (((x0.1 + (0 : Int).toNat), (((x1 : Int).toNat - (0 : Int).toNat) + x3.length)), ((), y1, ())))
 else
 let y3 : List (Zaf) := ((h0.drop (x0.1 + (0 : Int).toNat)).take ((x1 : Int).toNat - (0 : Int).toNat) ++ x3)
 (bif (decide (((((((x1 : Int).toNat - (0 : Int).toNat) + x3.length) : Nat) : Int) : Int) < ((x0.2.1 : Nat) : Int))) then
 (if 0 <= (((((((x1 : Int).toNat - (0 : Int).toNat) + x3.length) : Nat) : Int) : Int) : Int) /\ (((((((x1 : Int).toNat - (0 : Int).toNat) + x3.length) : Nat) : Int) : Int) : Int) <= ((x0.2.1 : Nat) : Int) /\ ((x0.2.1 : Nat) : Int) <= ((x0.2.2 : Nat) : Int) /\ ((x0.2.1 : Nat) : Int) <= 140737488355328 then
 (if (x0.1 + ((((((x1 : Int).toNat - (0 : Int).toNat) + x3.length) : Nat) : Int) : Int).toNat) <= h0.length then
 let y4 : List (Zaf) := (h0.take (x0.1 + ((((((x1 : Int).toNat - (0 : Int).toNat) + x3.length) : Nat) : Int) : Int).toNat) ++ List.replicate (((x0.2.1 : Nat) : Int).toNat - ((((((x1 : Int).toNat - (0 : Int).toNat) + x3.length) : Nat) : Int) : Int).toNat) ((⟨(⟨([] : List UInt8), ([] : List UInt8)⟩ : Zao), 0, 0⟩ : Zaf) : Zaf) ++ h0.drop ((x0.1 + ((((((x1 : Int).toNat - (0 : Int).toNat) + x3.length) : Nat) : Int) : Int).toNat) + (((x0.2.1 : Nat) : Int).toNat - ((((((x1 : Int).toNat - (0 : Int).toNat) + x3.length) : Nat) : Int) : Int).toNat)))
 some ((0, (((x1 : Int).toNat - (0 : Int).toNat) + x3.length)), ((), y3, ()))
 else none)
 else none)
 else
 some ((0, (((x1 : Int).toNat - (0 : Int).toNat) + x3.length)), ((), y3, ()))))
 else none)
 else none)
 else
 (if 0 <= ((0 : Int) : Int) /\ ((0 : Int) : Int) <= (x1 : Int) /\ (x1 : Int) <= ((x0.2.2 : Nat) : Int) /\ (x1 : Int) <= 140737488355328 then
 (if 0 <= ((x2 : Int) : Int) /\ ((x2 : Int) : Int) <= ((x0.2.1 : Nat) : Int) /\ ((x0.2.1 : Nat) : Int) <= ((x0.2.2 : Nat) : Int) /\ ((x0.2.1 : Nat) : Int) <= 140737488355328 then
 let y5 : Int := (IntKind.i64.wrap ((IntKind.i64.wrap (((((x1 : Int).toNat - (0 : Int).toNat) : Nat) : Int) + (x3.length : Int))) + (((((x0.2.1 : Nat) : Int).toNat - (x2 : Int).toNat) : Nat) : Int)))
 (bif (decide ((((x0.2.2 : Nat) : Int) : Int) < y5)) then
 (if 0 <= ((0 : Int) : Int) /\ ((0 : Int) : Int) <= (x1 : Int) /\ (x1 : Int) <= ((x0.2.2 : Nat) : Int) /\ (x1 : Int) <= 140737488355328 then
 (if (((x0.2.2 - (0 : Int).toNat) : Nat) : Int) < ((((x1 : Int).toNat - (0 : Int).toNat) : Nat) : Int) + (IntKind.i64.wrap (y5 - x1)) /\ ((((x1 : Int).toNat - (0 : Int).toNat) : Nat) : Int) <= (((x0.2.2 - (0 : Int).toNat) : Nat) : Int) /\ ((((x1 : Int).toNat - (0 : Int).toNat) : Nat) : Int) + (IntKind.i64.wrap (y5 - x1)) <= 140737488355328 /\ (((((x1 : Int).toNat - (0 : Int).toNat) : Nat) : Int) + (IntKind.i64.wrap (y5 - x1))) * ((48 : Nat) : Int) <= 140737488355328 /\ (x0.1 + (0 : Int).toNat) + ((x1 : Int).toNat - (0 : Int).toNat) <= h0.length then
 let y6 : List (Zaf) := ((h0.drop (x0.1 + (0 : Int).toNat)).take ((x1 : Int).toNat - (0 : Int).toNat))
 (if 0 <= ((x1 : Int) : Int) /\ ((x1 : Int) : Int) <= (((((x1 : Int).toNat - (0 : Int).toNat) + ((IntKind.i64.wrap (y5 - x1)) : Int).toNat) : Nat) : Int) /\ (((((x1 : Int).toNat - (0 : Int).toNat) + ((IntKind.i64.wrap (y5 - x1)) : Int).toNat) : Nat) : Int) <= (((((x1 : Int).toNat - (0 : Int).toNat) + ((IntKind.i64.wrap (y5 - x1)) : Int).toNat) : Nat) : Int) /\ (((((x1 : Int).toNat - (0 : Int).toNat) + ((IntKind.i64.wrap (y5 - x1)) : Int).toNat) : Nat) : Int) <= 140737488355328 then
 (if (0 + (x1 : Int).toNat) <= y6.length then
 let y7 : List (Zaf) := (y6.take (0 + (x1 : Int).toNat) ++ x3.take ((((((x1 : Int).toNat - (0 : Int).toNat) + ((IntKind.i64.wrap (y5 - x1)) : Int).toNat) : Nat) : Int).toNat - (x1 : Int).toNat) ++ y6.drop ((0 + (x1 : Int).toNat) + min x3.length ((((((x1 : Int).toNat - (0 : Int).toNat) + ((IntKind.i64.wrap (y5 - x1)) : Int).toNat) : Nat) : Int).toNat - (x1 : Int).toNat)))
 (if 0 <= (((IntKind.i64.wrap (x1 + (x3.length : Int))) : Int) : Int) /\ (((IntKind.i64.wrap (x1 + (x3.length : Int))) : Int) : Int) <= (((((x1 : Int).toNat - (0 : Int).toNat) + ((IntKind.i64.wrap (y5 - x1)) : Int).toNat) : Nat) : Int) /\ (((((x1 : Int).toNat - (0 : Int).toNat) + ((IntKind.i64.wrap (y5 - x1)) : Int).toNat) : Nat) : Int) <= (((((x1 : Int).toNat - (0 : Int).toNat) + ((IntKind.i64.wrap (y5 - x1)) : Int).toNat) : Nat) : Int) /\ (((((x1 : Int).toNat - (0 : Int).toNat) + ((IntKind.i64.wrap (y5 - x1)) : Int).toNat) : Nat) : Int) <= 140737488355328 then
 (if 0 <= ((x2 : Int) : Int) /\ ((x2 : Int) : Int) <= ((x0.2.1 : Nat) : Int) /\ ((x0.2.1 : Nat) : Int) <= ((x0.2.2 : Nat) : Int) /\ ((x0.2.1 : Nat) : Int) <= 140737488355328 then
 (if (x0.1 + (x2 : Int).toNat) + (((x0.2.1 : Nat) : Int).toNat - (x2 : Int).toNat) <= h0.length then
 let y8 : List (Zaf) := ((h0.drop (x0.1 + (x2 : Int).toNat)).take (((x0.2.1 : Nat) : Int).toNat - (x2 : Int).toNat))
 (if (0 + ((IntKind.i64.wrap (x1 + (x3.length : Int))) : Int).toNat) <= y7.length then
 let y9 : List (Zaf) := (y7.take (0 + ((IntKind.i64.wrap (x1 + (x3.length : Int))) : Int).toNat) ++ y8.take ((((((x1 : Int).toNat - (0 : Int).toNat) + ((IntKind.i64.wrap (y5 - x1)) : Int).toNat) : Nat) : Int).toNat - ((IntKind.i64.wrap (x1 + (x3.length : Int))) : Int).toNat) ++ y7.drop ((0 + ((IntKind.i64.wrap (x1 + (x3.length : Int))) : Int).toNat) + min y8.length ((((((x1 : Int).toNat - (0 : Int).toNat) + ((IntKind.i64.wrap (y5 - x1)) : Int).toNat) : Nat) : Int).toNat - ((IntKind.i64.wrap (x1 + (x3.length : Int))) : Int).toNat)))
 some ((0, (((x1 : Int).toNat - (0 : Int).toNat) + ((IntKind.i64.wrap (y5 - x1)) : Int).toNat)), ((), y9, ()))
 else none)
 else none)
 else none)
 else none)
 else none)
 else none)
 else none)
 else none)
 else
 (if 0 <= ((0 : Int) : Int) /\ ((0 : Int) : Int) <= (y5 : Int) /\ (y5 : Int) <= ((x0.2.2 : Nat) : Int) /\ (y5 : Int) <= 140737488355328 then
 (bif (decide (((IntKind.i64.wrap (x1 + (x3.length : Int))) : Int) <= x2)) then
 (if 0 <= ((x1 : Int) : Int) /\ ((x1 : Int) : Int) <= ((((y5 : Int).toNat - (0 : Int).toNat) : Nat) : Int) /\ ((((y5 : Int).toNat - (0 : Int).toNat) : Nat) : Int) <= (((x0.2.2 - (0 : Int).toNat) : Nat) : Int) /\ ((((y5 : Int).toNat - (0 : Int).toNat) : Nat) : Int) <= 140737488355328 then
 (if ((x0.1 + (0 : Int).toNat) + (x1 : Int).toNat) <= h0.length then
 let y10 : List (Zaf) := (h0.take ((x0.1 + (0 : Int).toNat) + (x1 : Int).toNat) ++ x3.take (((((y5 : Int).toNat - (0 : Int).toNat) : Nat) : Int).toNat - (x1 : Int).toNat) ++ h0.drop (((x0.1 + (0 : Int).toNat) + (x1 : Int).toNat) + min x3.length (((((y5 : Int).toNat - (0 : Int).toNat) : Nat) : Int).toNat - (x1 : Int).toNat)))
 (if 0 <= (((IntKind.i64.wrap (x1 + (x3.length : Int))) : Int) : Int) /\ (((IntKind.i64.wrap (x1 + (x3.length : Int))) : Int) : Int) <= ((((y5 : Int).toNat - (0 : Int).toNat) : Nat) : Int) /\ ((((y5 : Int).toNat - (0 : Int).toNat) : Nat) : Int) <= (((x0.2.2 - (0 : Int).toNat) : Nat) : Int) /\ ((((y5 : Int).toNat - (0 : Int).toNat) : Nat) : Int) <= 140737488355328 then
 (if 0 <= ((x2 : Int) : Int) /\ ((x2 : Int) : Int) <= ((x0.2.1 : Nat) : Int) /\ ((x0.2.1 : Nat) : Int) <= ((x0.2.2 : Nat) : Int) /\ ((x0.2.1 : Nat) : Int) <= 140737488355328 then
 (if (x0.1 + (x2 : Int).toNat) + (((x0.2.1 : Nat) : Int).toNat - (x2 : Int).toNat) <= y10.length then
 let y11 : List (Zaf) := ((y10.drop (x0.1 + (x2 : Int).toNat)).take (((x0.2.1 : Nat) : Int).toNat - (x2 : Int).toNat))
 (if ((x0.1 + (0 : Int).toNat) + ((IntKind.i64.wrap (x1 + (x3.length : Int))) : Int).toNat) <= y10.length then
 let y12 : List (Zaf) := (y10.take ((x0.1 + (0 : Int).toNat) + ((IntKind.i64.wrap (x1 + (x3.length : Int))) : Int).toNat) ++ y11.take (((((y5 : Int).toNat - (0 : Int).toNat) : Nat) : Int).toNat - ((IntKind.i64.wrap (x1 + (x3.length : Int))) : Int).toNat) ++ y10.drop (((x0.1 + (0 : Int).toNat) + ((IntKind.i64.wrap (x1 + (x3.length : Int))) : Int).toNat) + min y11.length (((((y5 : Int).toNat - (0 : Int).toNat) : Nat) : Int).toNat - ((IntKind.i64.wrap (x1 + (x3.length : Int))) : Int).toNat)))
 (if 0 <= ((y5 : Int) : Int) /\ ((y5 : Int) : Int) <= ((x0.2.1 : Nat) : Int) /\ ((x0.2.1 : Nat) : Int) <= ((x0.2.2 : Nat) : Int) /\ ((x0.2.1 : Nat) : Int) <= 140737488355328 then
 (if (x0.1 + (y5 : Int).toNat) <= y12.length then
 let y13 : List (Zaf) := (y12.take (x0.1 + (y5 : Int).toNat) ++ List.replicate (((x0.2.1 : Nat) : Int).toNat - (y5 : Int).toNat) ((⟨(⟨([] : List UInt8), ([] : List UInt8)⟩ : Zao), 0, 0⟩ : Zaf) : Zaf) ++ y12.drop ((x0.1 + (y5 : Int).toNat) + (((x0.2.1 : Nat) : Int).toNat - (y5 : Int).toNat)))
 some (((x0.1 + (0 : Int).toNat), ((y5 : Int).toNat - (0 : Int).toNat)), ((), y13, ()))
 else none)
 else none)
 else none)
 else none)
 else none)
 else none)
 else none)
 else none)
 else
 (if 0 <= (((IntKind.i64.wrap (x1 + (x3.length : Int))) : Int) : Int) /\ (((IntKind.i64.wrap (x1 + (x3.length : Int))) : Int) : Int) <= ((((y5 : Int).toNat - (0 : Int).toNat) : Nat) : Int) /\ ((((y5 : Int).toNat - (0 : Int).toNat) : Nat) : Int) <= (((x0.2.2 - (0 : Int).toNat) : Nat) : Int) /\ ((((y5 : Int).toNat - (0 : Int).toNat) : Nat) : Int) <= 140737488355328 then
 (Zd2 (((x0.1 + (0 : Int).toNat) + ((IntKind.i64.wrap (x1 + (x3.length : Int))) : Int).toNat), (((((y5 : Int).toNat - (0 : Int).toNat) : Nat) : Int).toNat - ((IntKind.i64.wrap (x1 + (x3.length : Int))) : Int).toNat), ((x0.2.2 - (0 : Int).toNat) - ((IntKind.i64.wrap (x1 + (x3.length : Int))) : Int).toNat)) x3 h0).bind fun r14 =>
 (bif (!r14.1) then
 (if 0 <= (((IntKind.i64.wrap (x1 + (x3.length : Int))) : Int) : Int) /\ (((IntKind.i64.wrap (x1 + (x3.length : Int))) : Int) : Int) <= ((((y5 : Int).toNat - (0 : Int).toNat) : Nat) : Int) /\ ((((y5 : Int).toNat - (0 : Int).toNat) : Nat) : Int) <= (((x0.2.2 - (0 : Int).toNat) : Nat) : Int) /\ ((((y5 : Int).toNat - (0 : Int).toNat) : Nat) : Int) <= 140737488355328 then
 (if 0 <= ((x2 : Int) : Int) /\ ((x2 : Int) : Int) <= ((x0.2.1 : Nat) : Int) /\ ((x0.2.1 : Nat) : Int) <= ((x0.2.2 : Nat) : Int) /\ ((x0.2.1 : Nat) : Int) <= 140737488355328 then
 (if (x0.1 + (x2 : Int).toNat) + (((x0.2.1 : Nat) : Int).toNat - (x2 : Int).toNat) <= r14.2.1.length then
 let y15 : List (Zaf) := ((r14.2.1.drop (x0.1 + (x2 : Int).toNat)).take (((x0.2.1 : Nat) : Int).toNat - (x2 : Int).toNat))
 (if ((x0.1 + (0 : Int).toNat) + ((IntKind.i64.wrap (x1 + (x3.length : Int))) : Int).toNat) <= r14.2.1.length then
 let y16 : List (Zaf) := (r14.2.1.take ((x0.1 + (0 : Int).toNat) + ((IntKind.i64.wrap (x1 + (x3.length : Int))) : Int).toNat) ++ y15.take (((((y5 : Int).toNat - (0 : Int).toNat) : Nat) : Int).toNat - ((IntKind.i64.wrap (x1 + (x3.length : Int))) : Int).toNat) ++ r14.2.1.drop (((x0.1 + (0 : Int).toNat) + ((IntKind.i64.wrap (x1 + (x3.length : Int))) : Int).toNat) + min y15.length (((((y5 : Int).toNat - (0 : Int).toNat) : Nat) : Int).toNat - ((IntKind.i64.wrap (x1 + (x3.length : Int))) : Int).toNat)))
 (if 0 <= ((x1 : Int) : Int) /\ ((x1 : Int) : Int) <= ((((y5 : Int).toNat - (0 : Int).toNat) : Nat) : Int) /\ ((((y5 : Int).toNat - (0 : Int).toNat) : Nat) : Int) <= (((x0.2.2 - (0 : Int).toNat) : Nat) : Int) /\ ((((y5 : Int).toNat - (0 : Int).toNat) : Nat) : Int) <= 140737488355328 then
 (if ((x0.1 + (0 : Int).toNat) + (x1 : Int).toNat) <= y16.length then
 let y17 : List (Zaf) := (y16.take ((x0.1 + (0 : Int).toNat) + (x1 : Int).toNat) ++ x3.take (((((y5 : Int).toNat - (0 : Int).toNat) : Nat) : Int).toNat - (x1 : Int).toNat) ++ y16.drop (((x0.1 + (0 : Int).toNat) + (x1 : Int).toNat) + min x3.length (((((y5 : Int).toNat - (0 : Int).toNat) : Nat) : Int).toNat - (x1 : Int).toNat)))
 some (((x0.1 + (0 : Int).toNat), ((y5 : Int).toNat - (0 : Int).toNat)), ((), y17, ()))
 else none)
 else none)
 else none)
 else none)
 else none)
 else none)
 else
 (if 0 <= ((x1 : Int) : Int) /\ ((x1 : Int) : Int) <= (x2 : Int) /\ (x2 : Int) <= (((x0.2.2 - (0 : Int).toNat) : Nat) : Int) /\ (x2 : Int) <= 140737488355328 then
 (Zd2 (((x0.1 + (0 : Int).toNat) + (x1 : Int).toNat), ((x2 : Int).toNat - (x1 : Int).toNat), ((x0.2.2 - (0 : Int).toNat) - (x1 : Int).toNat)) x3 r14.2.1).bind fun r18 =>
 (bif (!r18.1) then
 (if 0 <= ((x1 : Int) : Int) /\ ((x1 : Int) : Int) <= (x2 : Int) /\ (x2 : Int) <= (((x0.2.2 - (0 : Int).toNat) : Nat) : Int) /\ (x2 : Int) <= 140737488355328 then
 (if 0 <= ((IntKind.i64.wrap ((x3.length : Int) - (IntKind.i64.wrap (x2 - x1)))) : Int) /\ ((IntKind.i64.wrap ((x3.length : Int) - (IntKind.i64.wrap (x2 - x1)))) : Int) <= (x3.length : Int) /\ (x3.length : Int) <= (x3.length : Int) then
 let y19 : List (Zaf) := ((x3.drop ((IntKind.i64.wrap ((x3.length : Int) - (IntKind.i64.wrap (x2 - x1)))) : Int).toNat).take (((x3.length : Int) : Int).toNat - ((IntKind.i64.wrap ((x3.length : Int) - (IntKind.i64.wrap (x2 - x1)))) : Int).toNat))
 (if ((x0.1 + (0 : Int).toNat) + (x1 : Int).toNat) <= r18.2.1.length then
 let y20 : List (Zaf) := (r18.2.1.take ((x0.1 + (0 : Int).toNat) + (x1 : Int).toNat) ++ y19.take ((x2 : Int).toNat - (x1 : Int).toNat) ++ r18.2.1.drop (((x0.1 + (0 : Int).toNat) + (x1 : Int).toNat) + min y19.length ((x2 : Int).toNat - (x1 : Int).toNat)))
 (if 0 <= ((((x0.2.1 : Nat) : Int) : Int) : Int) /\ ((((x0.2.1 : Nat) : Int) : Int) : Int) <= ((((y5 : Int).toNat - (0 : Int).toNat) : Nat) : Int) /\ ((((y5 : Int).toNat - (0 : Int).toNat) : Nat) : Int) <= (((x0.2.2 - (0 : Int).toNat) : Nat) : Int) /\ ((((y5 : Int).toNat - (0 : Int).toNat) : Nat) : Int) <= 140737488355328 then
 (if 0 <= ((0 : Int) : Int) /\ ((0 : Int) : Int) <= (IntKind.i64.wrap ((x3.length : Int) - (IntKind.i64.wrap (x2 - x1)))) /\ (IntKind.i64.wrap ((x3.length : Int) - (IntKind.i64.wrap (x2 - x1)))) <= (x3.length : Int) then
 let y21 : List (Zaf) := ((x3.drop ((0 : Int) : Int).toNat).take (((IntKind.i64.wrap ((x3.length : Int) - (IntKind.i64.wrap (x2 - x1)))) : Int).toNat - ((0 : Int) : Int).toNat))
 (if ((x0.1 + (0 : Int).toNat) + (((x0.2.1 : Nat) : Int) : Int).toNat) <= y20.length then
 let y22 : List (Zaf) := (y20.take ((x0.1 + (0 : Int).toNat) + (((x0.2.1 : Nat) : Int) : Int).toNat) ++ y21.take (((((y5 : Int).toNat - (0 : Int).toNat) : Nat) : Int).toNat - (((x0.2.1 : Nat) : Int) : Int).toNat) ++ y20.drop (((x0.1 + (0 : Int).toNat) + (((x0.2.1 : Nat) : Int) : Int).toNat) + min y21.length (((((y5 : Int).toNat - (0 : Int).toNat) : Nat) : Int).toNat - (((x0.2.1 : Nat) : Int) : Int).toNat)))
 (if 0 <= ((x1 : Int) : Int) /\ ((x1 : Int) : Int) <= ((((y5 : Int).toNat - (0 : Int).toNat) : Nat) : Int) /\ ((((y5 : Int).toNat - (0 : Int).toNat) : Nat) : Int) <= (((x0.2.2 - (0 : Int).toNat) : Nat) : Int) /\ ((((y5 : Int).toNat - (0 : Int).toNat) : Nat) : Int) <= 140737488355328 then
 none
 else none)
 else none)
 else none)
 else none)
 else none)
 else none)
 else none)
 else
 (if 0 <= ((((x0.2.1 : Nat) : Int) : Int) : Int) /\ ((((x0.2.1 : Nat) : Int) : Int) : Int) <= ((((y5 : Int).toNat - (0 : Int).toNat) : Nat) : Int) /\ ((((y5 : Int).toNat - (0 : Int).toNat) : Nat) : Int) <= (((x0.2.2 - (0 : Int).toNat) : Nat) : Int) /\ ((((y5 : Int).toNat - (0 : Int).toNat) : Nat) : Int) <= 140737488355328 then
 (Zd2 (((x0.1 + (0 : Int).toNat) + (((x0.2.1 : Nat) : Int) : Int).toNat), (((((y5 : Int).toNat - (0 : Int).toNat) : Nat) : Int).toNat - (((x0.2.1 : Nat) : Int) : Int).toNat), ((x0.2.2 - (0 : Int).toNat) - (((x0.2.1 : Nat) : Int) : Int).toNat)) x3 r18.2.1).bind fun r23 =>
 (bif (!r23.1) then
 (if 0 <= ((((x0.2.1 : Nat) : Int) : Int) : Int) /\ ((((x0.2.1 : Nat) : Int) : Int) : Int) <= ((((y5 : Int).toNat - (0 : Int).toNat) : Nat) : Int) /\ ((((y5 : Int).toNat - (0 : Int).toNat) : Nat) : Int) <= (((x0.2.2 - (0 : Int).toNat) : Nat) : Int) /\ ((((y5 : Int).toNat - (0 : Int).toNat) : Nat) : Int) <= 140737488355328 then
 (if 0 <= ((0 : Int) : Int) /\ ((0 : Int) : Int) <= (IntKind.i64.wrap ((x3.length : Int) - (IntKind.i64.wrap (x2 - x1)))) /\ (IntKind.i64.wrap ((x3.length : Int) - (IntKind.i64.wrap (x2 - x1)))) <= (x3.length : Int) then
 let y24 : List (Zaf) := ((x3.drop ((0 : Int) : Int).toNat).take (((IntKind.i64.wrap ((x3.length : Int) - (IntKind.i64.wrap (x2 - x1)))) : Int).toNat - ((0 : Int) : Int).toNat))
 (if ((x0.1 + (0 : Int).toNat) + (((x0.2.1 : Nat) : Int) : Int).toNat) <= r23.2.1.length then
 let y25 : List (Zaf) := (r23.2.1.take ((x0.1 + (0 : Int).toNat) + (((x0.2.1 : Nat) : Int) : Int).toNat) ++ y24.take (((((y5 : Int).toNat - (0 : Int).toNat) : Nat) : Int).toNat - (((x0.2.1 : Nat) : Int) : Int).toNat) ++ r23.2.1.drop (((x0.1 + (0 : Int).toNat) + (((x0.2.1 : Nat) : Int) : Int).toNat) + min y24.length (((((y5 : Int).toNat - (0 : Int).toNat) : Nat) : Int).toNat - (((x0.2.1 : Nat) : Int) : Int).toNat)))
 (if 0 <= ((x1 : Int) : Int) /\ ((x1 : Int) : Int) <= (x2 : Int) /\ (x2 : Int) <= (((x0.2.2 - (0 : Int).toNat) : Nat) : Int) /\ (x2 : Int) <= 140737488355328 then
 (if 0 <= ((IntKind.i64.wrap ((x3.length : Int) - (IntKind.i64.wrap (x2 - x1)))) : Int) /\ ((IntKind.i64.wrap ((x3.length : Int) - (IntKind.i64.wrap (x2 - x1)))) : Int) <= (x3.length : Int) /\ (x3.length : Int) <= (x3.length : Int) then
 let y26 : List (Zaf) := ((x3.drop ((IntKind.i64.wrap ((x3.length : Int) - (IntKind.i64.wrap (x2 - x1)))) : Int).toNat).take (((x3.length : Int) : Int).toNat - ((IntKind.i64.wrap ((x3.length : Int) - (IntKind.i64.wrap (x2 - x1)))) : Int).toNat))
 (if ((x0.1 + (0 : Int).toNat) + (x1 : Int).toNat) <= y25.length then
 let y27 : List (Zaf) := (y25.take ((x0.1 + (0 : Int).toNat) + (x1 : Int).toNat) ++ y26.take ((x2 : Int).toNat - (x1 : Int).toNat) ++ y25.drop (((x0.1 + (0 : Int).toNat) + (x1 : Int).toNat) + min y26.length ((x2 : Int).toNat - (x1 : Int).toNat)))
 (if 0 <= ((x1 : Int) : Int) /\ ((x1 : Int) : Int) <= ((((y5 : Int).toNat - (0 : Int).toNat) : Nat) : Int) /\ ((((y5 : Int).toNat - (0 : Int).toNat) : Nat) : Int) <= (((x0.2.2 - (0 : Int).toNat) : Nat) : Int) /\ ((((y5 : Int).toNat - (0 : Int).toNat) : Nat) : Int) <= 140737488355328 then
 none
 else none)
 else none)
 else none)
 else none)
 else none)
 else none)
 else none)
 else
 (if 0 <= ((x2 : Int) : Int) /\ ((x2 : Int) : Int) <= ((x0.2.1 : Nat) : Int) /\ ((x0.2.1 : Nat) : Int) <= ((x0.2.2 : Nat) : Int) /\ ((x0.2.1 : Nat) : Int) <= 140737488355328 then
 none
 else none))
 else none))
 else none))
 else none))
 else none))
 else none)
 else none)))
 else none)
def ZnW : CEp where
 f := 231
 args := [.one (.as 5 0), .one (.int .i64), .one (.int .i64), .one (.sl 5)]
 hs := [.arr 99 5 false]
 res := .val (.one (.asu 5 1))
 outs := [.dead, .arr 99 5 false]
 m := fun d dh => ZhM d.1 d.2.1 d.2.2.1 d.2.2.2.1 dh.1
 ok := ZaO Zar Tryz.func231 (by kernel_rfl) (Zad ZnV) (dr := ZnU) (lps := Zap lt0) (Zau (Zal (by kernel_rfl))) (fun d dh => by kernel_rfl)
end
end Go.Proofs.YtaihdjknneiciaaGreat
