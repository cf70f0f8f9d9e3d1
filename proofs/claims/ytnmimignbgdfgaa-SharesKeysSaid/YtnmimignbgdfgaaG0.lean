/- Models, by program: what stands below. -/
import Derived.Test.YtnmimignbgdfgaaSeqT
import Derived.Test.YtnmimignbgdfgaaFz
namespace Go.Proofs.Ytnmimignbgdfgaa
open Go.RowKit
set_option maxRecDepth 100000
set_option linter.unusedVariables false
def slices_Replace_dr : Nat → DrA
  | 9 => ⟨[0, 1, 2, 3, 4, 5, 6, 7, 8, 9, 10, 11, 12], [[], [], [0, 1], [0, 1, 2], [], [4], [0, 1, 2, 3, 4, 5], [], [], [7, 8], [7, 8, 9], [0, 1, 2, 3, 4, 5, 6, 7, 8, 9, 10], [0, 1, 2, 3, 4, 5, 6, 7, 8, 9, 10, 11]], [], [], []⟩
  | 13 => ⟨[0, 1, 2, 3, 4, 5, 6, 7, 8, 9], [[], [], [], [2], [1, 2, 3], [0, 1, 2, 3, 4], [], [], [6, 7], [0, 1, 2, 3, 4, 5, 6, 7, 8]], [], [], []⟩
  | 18 => ⟨[0, 1, 2, 3, 4, 5, 6, 7, 8, 9], [[], [], [], [2], [1, 2, 3], [0, 1, 2, 3, 4], [], [], [6, 7], [0, 1, 2, 3, 4, 5, 6, 7, 8]], [], [], []⟩
  | _ => ⟨[], [], [], [], []⟩
noncomputable def slices_Replace_tb : List (CE CT Try.prog) := []
noncomputable def slices_Replace_lt : List (LE CT Try.prog) := []
noncomputable def slices_Replace (x0 : Nat × Nat × Nat) (x1 : Int) (x2 : Int) (x3 : List (DShare)) (h0 : List (DShare)) : Option ((Nat × Nat) × ((Unit) × (List (DShare)) × Unit)) :=
  (if 0 ≤ (x1 : Int) ∧ (x1 : Int) ≤ (x2 : Int) ∧ (x2 : Int) ≤ ((x0.2.2 : Nat) : Int) ∧ (x2 : Int) ≤ 140737488355328 then
  (bif (decide ((x1 : Int) = x2)) then
  none
  else
  (bif (decide ((x2 : Int) = ((x0.2.1 : Nat) : Int))) then
  (if 0 ≤ (0 : Int) ∧ (0 : Int) ≤ (x1 : Int) ∧ (x1 : Int) ≤ ((x0.2.2 : Nat) : Int) ∧ (x1 : Int) ≤ 140737488355328 then
  (if (((x1 : Int).toNat - (0 : Int).toNat) + x3.length) ≤ 140737488355328 ∧ (((x1 : Int).toNat - (0 : Int).toNat) + x3.length) * 48 ≤ 140737488355328 ∧ (x0.1 + (0 : Int).toNat) + ((x1 : Int).toNat - (0 : Int).toNat) ≤ h0.length then
  (if (((x1 : Int).toNat - (0 : Int).toNat) + x3.length) ≤ (x0.2.2 - (0 : Int).toNat) then
  let y1 : List (DShare) := (h0.take ((x0.1 + (0 : Int).toNat) + ((x1 : Int).toNat - (0 : Int).toNat)) ++ x3 ++ h0.drop ((x0.1 + (0 : Int).toNat) + ((x1 : Int).toNat - (0 : Int).toNat) + x3.length))
  (bif (decide (((((((x1 : Int).toNat - (0 : Int).toNat) + x3.length) : Nat) : Int) : Int) < ((x0.2.1 : Nat) : Int))) then
  (if 0 ≤ ((((((x1 : Int).toNat - (0 : Int).toNat) + x3.length) : Nat) : Int) : Int) ∧ ((((((x1 : Int).toNat - (0 : Int).toNat) + x3.length) : Nat) : Int) : Int) ≤ ((x0.2.1 : Nat) : Int) ∧ ((x0.2.1 : Nat) : Int) ≤ ((x0.2.2 : Nat) : Int) ∧ ((x0.2.1 : Nat) : Int) ≤ 140737488355328 then
  (if (x0.1 + ((((((x1 : Int).toNat - (0 : Int).toNat) + x3.length) : Nat) : Int) : Int).toNat) ≤ y1.length then
  let y2 : List (DShare) := (y1.take (x0.1 + ((((((x1 : Int).toNat - (0 : Int).toNat) + x3.length) : Nat) : Int) : Int).toNat) ++ List.replicate (((x0.2.1 : Nat) : Int).toNat - ((((((x1 : Int).toNat - (0 : Int).toNat) + x3.length) : Nat) : Int) : Int).toNat) ((⟨(⟨([] : List UInt8), ([] : List UInt8)⟩ : DSpan), 0, 0⟩ : DShare) : DShare) ++ y1.drop ((x0.1 + ((((((x1 : Int).toNat - (0 : Int).toNat) + x3.length) : Nat) : Int) : Int).toNat) + (((x0.2.1 : Nat) : Int).toNat - ((((((x1 : Int).toNat - (0 : Int).toNat) + x3.length) : Nat) : Int) : Int).toNat)))
  some (((x0.1 + (0 : Int).toNat), (((x1 : Int).toNat - (0 : Int).toNat) + x3.length)), ((), y2, ()))
  else none)
  else none)
  else
  some (((x0.1 + (0 : Int).toNat), (((x1 : Int).toNat - (0 : Int).toNat) + x3.length)), ((), y1, ())))
  else
  let y3 : List (DShare) := ((h0.drop (x0.1 + (0 : Int).toNat)).take ((x1 : Int).toNat - (0 : Int).toNat) ++ x3)
  (bif (decide (((((((x1 : Int).toNat - (0 : Int).toNat) + x3.length) : Nat) : Int) : Int) < ((x0.2.1 : Nat) : Int))) then
  (if 0 ≤ ((((((x1 : Int).toNat - (0 : Int).toNat) + x3.length) : Nat) : Int) : Int) ∧ ((((((x1 : Int).toNat - (0 : Int).toNat) + x3.length) : Nat) : Int) : Int) ≤ ((x0.2.1 : Nat) : Int) ∧ ((x0.2.1 : Nat) : Int) ≤ ((x0.2.2 : Nat) : Int) ∧ ((x0.2.1 : Nat) : Int) ≤ 140737488355328 then
  (if (x0.1 + ((((((x1 : Int).toNat - (0 : Int).toNat) + x3.length) : Nat) : Int) : Int).toNat) ≤ h0.length then
  let y4 : List (DShare) := (h0.take (x0.1 + ((((((x1 : Int).toNat - (0 : Int).toNat) + x3.length) : Nat) : Int) : Int).toNat) ++ List.replicate (((x0.2.1 : Nat) : Int).toNat - ((((((x1 : Int).toNat - (0 : Int).toNat) + x3.length) : Nat) : Int) : Int).toNat) ((⟨(⟨([] : List UInt8), ([] : List UInt8)⟩ : DSpan), 0, 0⟩ : DShare) : DShare) ++ h0.drop ((x0.1 + ((((((x1 : Int).toNat - (0 : Int).toNat) + x3.length) : Nat) : Int) : Int).toNat) + (((x0.2.1 : Nat) : Int).toNat - ((((((x1 : Int).toNat - (0 : Int).toNat) + x3.length) : Nat) : Int) : Int).toNat)))
  some ((0, (((x1 : Int).toNat - (0 : Int).toNat) + x3.length)), ((), y3, ()))
  else none)
  else none)
  else
  some ((0, (((x1 : Int).toNat - (0 : Int).toNat) + x3.length)), ((), y3, ()))))
  else none)
  else none)
  else
  (if 0 ≤ (0 : Int) ∧ (0 : Int) ≤ (x1 : Int) ∧ (x1 : Int) ≤ ((x0.2.2 : Nat) : Int) ∧ (x1 : Int) ≤ 140737488355328 then
  (if 0 ≤ (x2 : Int) ∧ (x2 : Int) ≤ ((x0.2.1 : Nat) : Int) ∧ ((x0.2.1 : Nat) : Int) ≤ ((x0.2.2 : Nat) : Int) ∧ ((x0.2.1 : Nat) : Int) ≤ 140737488355328 then
  let y5 : Int := (IntKind.i64.wrap ((IntKind.i64.wrap (((((x1 : Int).toNat - (0 : Int).toNat) : Nat) : Int) + (x3.length : Int))) + (((((x0.2.1 : Nat) : Int).toNat - (x2 : Int).toNat) : Nat) : Int)))
  (bif (decide ((((x0.2.2 : Nat) : Int) : Int) < y5)) then
  (if 0 ≤ (0 : Int) ∧ (0 : Int) ≤ (x1 : Int) ∧ (x1 : Int) ≤ ((x0.2.2 : Nat) : Int) ∧ (x1 : Int) ≤ 140737488355328 then
  (if (((x0.2.2 - (0 : Int).toNat) : Nat) : Int) < ((((x1 : Int).toNat - (0 : Int).toNat) : Nat) : Int) + (IntKind.i64.wrap (y5 - x1)) ∧ ((((x1 : Int).toNat - (0 : Int).toNat) : Nat) : Int) ≤ (((x0.2.2 - (0 : Int).toNat) : Nat) : Int) ∧ ((((x1 : Int).toNat - (0 : Int).toNat) : Nat) : Int) + (IntKind.i64.wrap (y5 - x1)) ≤ 140737488355328 ∧ (((((x1 : Int).toNat - (0 : Int).toNat) : Nat) : Int) + (IntKind.i64.wrap (y5 - x1))) * ((48 : Nat) : Int) ≤ 140737488355328 ∧ (x0.1 + (0 : Int).toNat) + ((x1 : Int).toNat - (0 : Int).toNat) ≤ h0.length then
  let y6 : List (DShare) := ((h0.drop (x0.1 + (0 : Int).toNat)).take ((x1 : Int).toNat - (0 : Int).toNat))
  (if 0 ≤ (x1 : Int) ∧ (x1 : Int) ≤ (((((x1 : Int).toNat - (0 : Int).toNat) + ((IntKind.i64.wrap (y5 - x1)) : Int).toNat) : Nat) : Int) ∧ (((((x1 : Int).toNat - (0 : Int).toNat) + ((IntKind.i64.wrap (y5 - x1)) : Int).toNat) : Nat) : Int) ≤ (((((x1 : Int).toNat - (0 : Int).toNat) + ((IntKind.i64.wrap (y5 - x1)) : Int).toNat) : Nat) : Int) ∧ (((((x1 : Int).toNat - (0 : Int).toNat) + ((IntKind.i64.wrap (y5 - x1)) : Int).toNat) : Nat) : Int) ≤ 140737488355328 then
  (if (0 + (x1 : Int).toNat) ≤ y6.length then
  let y7 : List (DShare) := (y6.take (0 + (x1 : Int).toNat) ++ x3.take ((((((x1 : Int).toNat - (0 : Int).toNat) + ((IntKind.i64.wrap (y5 - x1)) : Int).toNat) : Nat) : Int).toNat - (x1 : Int).toNat) ++ y6.drop ((0 + (x1 : Int).toNat) + min x3.length ((((((x1 : Int).toNat - (0 : Int).toNat) + ((IntKind.i64.wrap (y5 - x1)) : Int).toNat) : Nat) : Int).toNat - (x1 : Int).toNat)))
  (if 0 ≤ ((IntKind.i64.wrap (x1 + (x3.length : Int))) : Int) ∧ ((IntKind.i64.wrap (x1 + (x3.length : Int))) : Int) ≤ (((((x1 : Int).toNat - (0 : Int).toNat) + ((IntKind.i64.wrap (y5 - x1)) : Int).toNat) : Nat) : Int) ∧ (((((x1 : Int).toNat - (0 : Int).toNat) + ((IntKind.i64.wrap (y5 - x1)) : Int).toNat) : Nat) : Int) ≤ (((((x1 : Int).toNat - (0 : Int).toNat) + ((IntKind.i64.wrap (y5 - x1)) : Int).toNat) : Nat) : Int) ∧ (((((x1 : Int).toNat - (0 : Int).toNat) + ((IntKind.i64.wrap (y5 - x1)) : Int).toNat) : Nat) : Int) ≤ 140737488355328 then
  (if 0 ≤ (x2 : Int) ∧ (x2 : Int) ≤ ((x0.2.1 : Nat) : Int) ∧ ((x0.2.1 : Nat) : Int) ≤ ((x0.2.2 : Nat) : Int) ∧ ((x0.2.1 : Nat) : Int) ≤ 140737488355328 then
  (if (x0.1 + (x2 : Int).toNat) + (((x0.2.1 : Nat) : Int).toNat - (x2 : Int).toNat) ≤ h0.length then
  let y8 : List (DShare) := ((h0.drop (x0.1 + (x2 : Int).toNat)).take (((x0.2.1 : Nat) : Int).toNat - (x2 : Int).toNat))
  (if (0 + ((IntKind.i64.wrap (x1 + (x3.length : Int))) : Int).toNat) ≤ y7.length then
  let y9 : List (DShare) := (y7.take (0 + ((IntKind.i64.wrap (x1 + (x3.length : Int))) : Int).toNat) ++ y8.take ((((((x1 : Int).toNat - (0 : Int).toNat) + ((IntKind.i64.wrap (y5 - x1)) : Int).toNat) : Nat) : Int).toNat - ((IntKind.i64.wrap (x1 + (x3.length : Int))) : Int).toNat) ++ y7.drop ((0 + ((IntKind.i64.wrap (x1 + (x3.length : Int))) : Int).toNat) + min y8.length ((((((x1 : Int).toNat - (0 : Int).toNat) + ((IntKind.i64.wrap (y5 - x1)) : Int).toNat) : Nat) : Int).toNat - ((IntKind.i64.wrap (x1 + (x3.length : Int))) : Int).toNat)))
  some ((0, (((x1 : Int).toNat - (0 : Int).toNat) + ((IntKind.i64.wrap (y5 - x1)) : Int).toNat)), ((), y9, ()))
  else none)
  else none)
  else none)
  else none)
  else none)
  else none)
  else none)
  else none)
  else
  (if 0 ≤ (0 : Int) ∧ (0 : Int) ≤ (y5 : Int) ∧ (y5 : Int) ≤ ((x0.2.2 : Nat) : Int) ∧ (y5 : Int) ≤ 140737488355328 then
  (bif (decide (((IntKind.i64.wrap (x1 + (x3.length : Int))) : Int) ≤ x2)) then
  (if 0 ≤ (x1 : Int) ∧ (x1 : Int) ≤ ((((y5 : Int).toNat - (0 : Int).toNat) : Nat) : Int) ∧ ((((y5 : Int).toNat - (0 : Int).toNat) : Nat) : Int) ≤ (((x0.2.2 - (0 : Int).toNat) : Nat) : Int) ∧ ((((y5 : Int).toNat - (0 : Int).toNat) : Nat) : Int) ≤ 140737488355328 then
  (if ((x0.1 + (0 : Int).toNat) + (x1 : Int).toNat) ≤ h0.length then
  let y10 : List (DShare) := (h0.take ((x0.1 + (0 : Int).toNat) + (x1 : Int).toNat) ++ x3.take (((((y5 : Int).toNat - (0 : Int).toNat) : Nat) : Int).toNat - (x1 : Int).toNat) ++ h0.drop (((x0.1 + (0 : Int).toNat) + (x1 : Int).toNat) + min x3.length (((((y5 : Int).toNat - (0 : Int).toNat) : Nat) : Int).toNat - (x1 : Int).toNat)))
  (if 0 ≤ ((IntKind.i64.wrap (x1 + (x3.length : Int))) : Int) ∧ ((IntKind.i64.wrap (x1 + (x3.length : Int))) : Int) ≤ ((((y5 : Int).toNat - (0 : Int).toNat) : Nat) : Int) ∧ ((((y5 : Int).toNat - (0 : Int).toNat) : Nat) : Int) ≤ (((x0.2.2 - (0 : Int).toNat) : Nat) : Int) ∧ ((((y5 : Int).toNat - (0 : Int).toNat) : Nat) : Int) ≤ 140737488355328 then
  (if 0 ≤ (x2 : Int) ∧ (x2 : Int) ≤ ((x0.2.1 : Nat) : Int) ∧ ((x0.2.1 : Nat) : Int) ≤ ((x0.2.2 : Nat) : Int) ∧ ((x0.2.1 : Nat) : Int) ≤ 140737488355328 then
  (if (x0.1 + (x2 : Int).toNat) + (((x0.2.1 : Nat) : Int).toNat - (x2 : Int).toNat) ≤ y10.length then
  let y11 : List (DShare) := ((y10.drop (x0.1 + (x2 : Int).toNat)).take (((x0.2.1 : Nat) : Int).toNat - (x2 : Int).toNat))
  (if ((x0.1 + (0 : Int).toNat) + ((IntKind.i64.wrap (x1 + (x3.length : Int))) : Int).toNat) ≤ y10.length then
  let y12 : List (DShare) := (y10.take ((x0.1 + (0 : Int).toNat) + ((IntKind.i64.wrap (x1 + (x3.length : Int))) : Int).toNat) ++ y11.take (((((y5 : Int).toNat - (0 : Int).toNat) : Nat) : Int).toNat - ((IntKind.i64.wrap (x1 + (x3.length : Int))) : Int).toNat) ++ y10.drop (((x0.1 + (0 : Int).toNat) + ((IntKind.i64.wrap (x1 + (x3.length : Int))) : Int).toNat) + min y11.length (((((y5 : Int).toNat - (0 : Int).toNat) : Nat) : Int).toNat - ((IntKind.i64.wrap (x1 + (x3.length : Int))) : Int).toNat)))
  (if 0 ≤ (y5 : Int) ∧ (y5 : Int) ≤ ((x0.2.1 : Nat) : Int) ∧ ((x0.2.1 : Nat) : Int) ≤ ((x0.2.2 : Nat) : Int) ∧ ((x0.2.1 : Nat) : Int) ≤ 140737488355328 then
  (if (x0.1 + (y5 : Int).toNat) ≤ y12.length then
  let y13 : List (DShare) := (y12.take (x0.1 + (y5 : Int).toNat) ++ List.replicate (((x0.2.1 : Nat) : Int).toNat - (y5 : Int).toNat) ((⟨(⟨([] : List UInt8), ([] : List UInt8)⟩ : DSpan), 0, 0⟩ : DShare) : DShare) ++ y12.drop ((x0.1 + (y5 : Int).toNat) + (((x0.2.1 : Nat) : Int).toNat - (y5 : Int).toNat)))
  some (((x0.1 + (0 : Int).toNat), ((y5 : Int).toNat - (0 : Int).toNat)), ((), y13, ()))
  else none)
  else none)
  else none)
  else none)
  else none)
  else none)
  else none)
  else none)
  else
  (if 0 ≤ ((IntKind.i64.wrap (x1 + (x3.length : Int))) : Int) ∧ ((IntKind.i64.wrap (x1 + (x3.length : Int))) : Int) ≤ ((((y5 : Int).toNat - (0 : Int).toNat) : Nat) : Int) ∧ ((((y5 : Int).toNat - (0 : Int).toNat) : Nat) : Int) ≤ (((x0.2.2 - (0 : Int).toNat) : Nat) : Int) ∧ ((((y5 : Int).toNat - (0 : Int).toNat) : Nat) : Int) ≤ 140737488355328 then
  none
  else none))
  else none))
  else none)
  else none)))
  else none)
noncomputable def slices_Replace_ce : CE CT Try.prog where
  f := 26
  args := [.one (.as 5 0), .one (.int .i64), .one (.int .i64), .one (.sl 5)]
  hs := [.arr 41 5 false]
  res := .val (.one (.asu 5 1))
  outs := [.dead, .arr 41 5 false]
  m := fun d dh => slices_Replace d.1 d.2.1 d.2.2.1 d.2.2.2.1 dh.1
  ok := ce_ok mixedP Try.func26 (by kernel_rfl) (orcOf_ok slices_Replace_tb) (dr := slices_Replace_dr) (lps := lpsOf slices_Replace_lt) (lps_fn (no_loop (by kernel_rfl))) (fun d dh => by kernel_rfl)
end Go.Proofs.Ytnmimignbgdfgaa
