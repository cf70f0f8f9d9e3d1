/- The laws. -/
import Derived.Test.YtnmimignbgdfgaaGreatG1
namespace Go.Proofs.YtnmimignbgdfgaaGreat
open Go.RowKit
set_option maxRecDepth 100000
set_option linter.unusedVariables false
def watershedlaw05_SharesTells_dr : Nat → DrA
  | 3 => ⟨[1, 3, 6, 0, 2, 4, 5, 7, 8], [[], [], [1], [], [3], [1, 2, 3, 4], [], [1, 2, 3, 4, 5, 6], [0, 1, 2, 3, 4, 5, 6, 7]], [0], [7], [0], false⟩
  | 12 => ⟨[0, 1, 2, 3, 4, 5, 6, 7, 8, 9, 10, 11, 12, 13, 14, 15, 16, 17, 18, 19, 20, 21, 22, 23, 24, 25, 26, 27, 28, 29, 30, 31, 33, 32, 34, 35, 36, 37, 38, 40, 39, 41, 42, 43, 44], [[], [], [0, 1], [0, 1, 2], [0, 1, 2, 3], [0, 1, 2, 3], [0, 1, 2, 3, 4, 5], [0, 1, 2, 3, 4, 5, 6], [0, 1, 2, 3, 4, 5, 6, 7], [0, 1, 2, 3, 4, 5, 6, 7, 8], [0, 1, 2, 3, 4, 5, 6, 7, 8, 9], [0, 1, 2, 3, 4, 5, 6, 7, 8, 9], [0, 1, 2, 3, 4, 5, 6, 7, 8, 9, 10, 11], [0, 1, 2, 3, 4, 5, 6, 7, 8, 9, 10, 11, 12], [0, 1, 2, 3, 4, 5, 6, 7, 8, 9, 10, 11, 12, 13], [0, 1, 2, 3, 4, 5, 6, 7, 8, 9, 10, 11, 12, 13, 14], [0, 1, 2, 3, 4, 5, 6, 7, 8, 9, 10, 11, 12, 13, 14], [0, 1, 2, 3, 4, 5, 6, 7, 8, 9, 10, 11, 12, 13, 14, 15, 16], [0, 1, 2, 3, 4, 5, 6, 7, 8, 9, 10, 11, 12, 13, 14, 15, 16, 17], [0, 1, 2, 3, 4, 5, 6, 7, 8, 9, 10, 11, 12, 13, 14, 15, 16, 17, 18], [0, 1, 2, 3, 4, 5, 6, 7, 8, 9, 10, 11, 12, 13, 14, 15, 16, 17, 18, 19], [0, 1, 2, 3, 4, 5, 6, 7, 8, 9, 10, 11, 12, 13, 14, 15, 16, 17, 18, 19], [0, 1, 2, 3, 4, 5, 6, 7, 8, 9, 10, 11, 12, 13, 14, 15, 16, 17, 18, 19, 20, 21], [0, 1, 2, 3, 4, 5, 6, 7, 8, 9, 10, 11, 12, 13, 14, 15, 16, 17, 18, 19, 20, 21, 22], [0, 1, 2, 3, 4, 5, 6, 7, 8, 9, 10, 11, 12, 13, 14, 15, 16, 17, 18, 19, 20, 21, 22, 23], [0, 1, 2, 3, 4, 5, 6, 7, 8, 9, 10, 11, 12, 13, 14, 15, 16, 17, 18, 19, 20, 21, 22, 23, 24], [0, 1, 2, 3, 4, 5, 6, 7, 8, 9, 10, 11, 12, 13, 14, 15, 16, 17, 18, 19, 20, 21, 22, 23, 24], [0, 1, 2, 3, 4, 5, 6, 7, 8, 9, 10, 11, 12, 13, 14, 15, 16, 17, 18, 19, 20, 21, 22, 23, 24, 25, 26], [0, 1, 2, 3, 4, 5, 6, 7, 8, 9, 10, 11, 12, 13, 14, 15, 16, 17, 18, 19, 20, 21, 22, 23, 24, 25, 26, 27], [0, 1, 2, 3, 4, 5, 6, 7, 8, 9, 10, 11, 12, 13, 14, 15, 16, 17, 18, 19, 20, 21, 22, 23, 24, 25, 26, 27, 28], [0, 1, 2, 3, 4, 5, 6, 7, 8, 9, 10, 11, 12, 13, 14, 15, 16, 17, 18, 19, 20, 21, 22, 23, 24, 25, 26, 27, 28, 29], [0, 1, 2, 3, 4, 5, 6, 7, 8, 9, 10, 11, 12, 13, 14, 15, 16, 17, 18, 19, 20, 21, 22, 23, 24, 25, 26, 27, 28, 29, 30], [0, 1, 2, 3, 4, 5, 6, 7, 8, 9, 10, 11, 12, 13, 14, 15, 16, 17, 18, 19, 20, 21, 22, 23, 24, 25, 26, 27, 28, 29, 30, 31], [0, 1, 2, 3, 4, 5, 6, 7, 8, 9, 10, 11, 12, 13, 14, 15, 16, 17, 18, 19, 20, 21, 22, 23, 24, 25, 26, 27, 28, 29, 30], [0, 1, 2, 3, 4, 5, 6, 7, 8, 9, 10, 11, 12, 13, 14, 15, 16, 17, 18, 19, 20, 21, 22, 23, 24, 25, 26, 27, 28, 29, 30, 31, 32, 33], [0, 1, 2, 3, 4, 5, 6, 7, 8, 9, 10, 11, 12, 13, 14, 15, 16, 17, 18, 19, 20, 21, 22, 23, 24, 25, 26, 27, 28, 29, 30, 31, 32, 33, 34], [0, 1, 2, 3, 4, 5, 6, 7, 8, 9, 10, 11, 12, 13, 14, 15, 16, 17, 18, 19, 20, 21, 22, 23, 24, 25, 26, 27, 28, 29, 30, 31, 32, 33, 34, 35], [0, 1, 2, 3, 4, 5, 6, 7, 8, 9, 10, 11, 12, 13, 14, 15, 16, 17, 18, 19, 20, 21, 22, 23, 24, 25, 26, 27, 28, 29, 30, 31, 32, 33, 34, 35, 36], [0, 1, 2, 3, 4, 5, 6, 7, 8, 9, 10, 11, 12, 13, 14, 15, 16, 17, 18, 19, 20, 21, 22, 23, 24, 25, 26, 27, 28, 29, 30, 31, 32, 33, 34, 35, 36, 37], [0, 1, 2, 3, 4, 5, 6, 7, 8, 9, 10, 11, 12, 13, 14, 15, 16, 17, 18, 19, 20, 21, 22, 23, 24, 25, 26, 27, 28, 29, 30, 31, 32, 33, 34, 35, 36, 37, 38], [0, 1, 2, 3, 4, 5, 6, 7, 8, 9, 10, 11, 12, 13, 14, 15, 16, 17, 18, 19, 20, 21, 22, 23, 24, 25, 26, 27, 28, 29, 30, 31, 32, 33, 34, 35, 36, 37], [0, 1, 2, 3, 4, 5, 6, 7, 8, 9, 10, 11, 12, 13, 14, 15, 16, 17, 18, 19, 20, 21, 22, 23, 24, 25, 26, 27, 28, 29, 30, 31, 32, 33, 34, 35, 36, 37, 38, 39, 40], [0, 1, 2, 3, 4, 5, 6, 7, 8, 9, 10, 11, 12, 13, 14, 15, 16, 17, 18, 19, 20, 21, 22, 23, 24, 25, 26, 27, 28, 29, 30, 31, 32, 33, 34, 35, 36, 37, 38, 39, 40, 41], [0, 1, 2, 3, 4, 5, 6, 7, 8, 9, 10, 11, 12, 13, 14, 15, 16, 17, 18, 19, 20, 21, 22, 23, 24, 25, 26, 27, 28, 29, 30, 31, 32, 33, 34, 35, 36, 37, 38, 39, 40, 41, 42], [0, 1, 2, 3, 4, 5, 6, 7, 8, 9, 10, 11, 12, 13, 14, 15, 16, 17, 18, 19, 20, 21, 22, 23, 24, 25, 26, 27, 28, 29, 30, 31, 32, 33, 34, 35, 36, 37, 38, 39, 40, 41, 42, 43]], [33], [32], [0], false⟩
  | 17 => ⟨[1, 2, 3, 0, 4, 5, 6, 7, 8, 9, 10, 11], [[], [], [], [1, 2], [1, 2, 3], [0, 1, 2, 3, 4], [0, 1, 2, 3, 4, 5], [0, 1, 2, 3, 4, 5, 6], [0, 1, 2, 3, 4, 5, 6], [], [0, 1, 2, 3, 4, 5, 6, 7, 9], [0, 1, 2, 3, 4, 5, 6, 7, 8, 9, 10]], [], [], [], false⟩
  | 18 => ⟨[1, 2, 3, 0, 4, 5, 6, 7, 8, 9, 10, 11], [[], [], [], [1, 2], [1, 2, 3], [0, 1, 2, 3, 4], [0, 1, 2, 3, 4, 5], [0, 1, 2, 3, 4, 5, 6], [0, 1, 2, 3, 4, 5, 6], [], [0, 1, 2, 3, 4, 5, 6, 7, 9], [0, 1, 2, 3, 4, 5, 6, 7, 8, 9, 10]], [], [], [], false⟩
  | _ => ⟨[], [], [], [], [], false⟩
noncomputable def watershedlaw05_SharesTells_tb : List (CE CT Tryz.prog) := [watershedlaw05_awake_ce, watershedlaw05_great_ce, watershedkit_LentShares_ce, shares_Turn_ar_ce, watershedref05_Turn_ce, shares_In_ce, watershedref05_In_ce, shares_Groups_ce, watershedref05_Groups_ce, watershedkit_SameShares_ce, watershedkit_SameInts_ce, shares_Right_ce, watershedref05_Right_ce, shares_First_ce, watershedref05_First_ce, watershedkit_SameShares_2_ce, shares_Of_ce, watershedref05_Of_ce, watershedkit_OverShares_ce, watershedkit_KeptShares_ce]
noncomputable def watershedlaw05_SharesTells_l1 (a : ((List (List UInt8)) × (Unit) × (Unit) × (Unit) × (Int) × Unit) × ((DShares) × ((Int) × (List (DShare) × List (DShare)) × Unit) × ((Int) × (Nat) × Unit) × (List (DShare)) × Unit)) : Option ((((List (List UInt8)) × (Unit) × (Unit) × (Unit) × (Int) × Unit) × ((DShares) × ((Int) × (List (DShare) × List (DShare)) × Unit) × ((Int) × (Nat) × Unit) × (List (DShare)) × Unit)) ⊕ ((((Bool) × Unit) × ((DShares) × ((Int) × (List (DShare) × List (DShare)) × Unit) × ((Int) × (Nat) × Unit) × (List (DShare)) × Unit)) ⊕ (((Unit) × (Unit) × (Unit) × Unit) × ((DShares) × ((Int) × (List (DShare) × List (DShare)) × Unit) × ((Int) × (Nat) × Unit) × (List (DShare)) × Unit)))) :=
  (bif (decide ((a.1.2.2.2.2.1 : Int) < (a.1.1.length : Int))) then
  (getI a.1.1 a.1.2.2.2.2.1).bind fun e1 =>
  (shares_Of (⟨a.2.2.1.1, a.2.2.1.2.1.1⟩ : DShares) e1).bind fun r2 =>
  (getI a.1.1 a.1.2.2.2.2.1).bind fun e3 =>
  (watershedref05_Of a.2.1 e3).bind fun r4 =>
  (bif (!(decide (r2.1.1.span.lo = r4.1.1.span.lo) && (decide (r2.1.1.span.hi = r4.1.1.span.hi) && (decide ((r2.1.1.group : Int) = r4.1.1.group) && (decide ((r2.1.1.epoch : Int) = r4.1.1.epoch) && true))))) then
  some (.inr (.inl ((false, ()), (a.2.1, (a.2.2.1.1, (a.2.2.1.2.1.1, a.2.2.1.2.1.2), ()), (a.2.2.2.1.1, a.2.2.2.1.2.1, ()), a.2.2.2.2.1, ()))))
  else
  (bif (decide (r2.1.2.1 ≠ r4.1.2.1)) then
  some (.inr (.inl ((false, ()), (a.2.1, (a.2.2.1.1, (a.2.2.1.2.1.1, a.2.2.1.2.1.2), ()), (a.2.2.2.1.1, a.2.2.2.1.2.1, ()), a.2.2.2.2.1, ()))))
  else
  some (.inl ((a.1.1, (), (), (), (IntKind.i64.wrap (a.1.2.2.2.2.1 + 1)), ()), (a.2.1, (a.2.2.1.1, (a.2.2.1.2.1.1, a.2.2.1.2.1.2), ()), (a.2.2.2.1.1, a.2.2.2.1.2.1, ()), a.2.2.2.2.1, ())))))
  else
  some (.inr (.inr (((), (), (), ()), (a.2.1, (a.2.2.1.1, (a.2.2.1.2.1.1, a.2.2.1.2.1.2), ()), (a.2.2.2.1.1, a.2.2.2.1.2.1, ()), a.2.2.2.2.1, ())))))
noncomputable def watershedlaw05_SharesTells_e1 : LE CT Tryz.prog := ⟨15, [3, 4, 9, 10, 22], [.one (.sl 2), .one (.ptr 0 0), .one (.ptr 1 0), .one (.ptr 2 0), .one (.int .i64)], [.cobj 24 9, .obj 24 [.int .i64, .slx 5], .obj 24 [.int .i64, .asz 5 3], .arr 35 5 true], [⟨.ret, [8], [.one (.bool)], [.cobj 24 9, .obj 24 [.int .i64, .slx 5], .obj 24 [.int .i64, .asz 5 3], .arr 35 5 true]⟩, ⟨.exit 0, [4, 9, 10], [.one (.ptr 0 0), .one (.ptr 1 0), .one (.ptr 2 0)], [.cobj 24 9, .obj 24 [.int .i64, .slx 5], .obj 24 [.int .i64, .asz 5 3], .arr 35 5 true]⟩], watershedlaw05_SharesTells_l1⟩
noncomputable def watershedlaw05_SharesTells_lt : List (LE CT Tryz.prog) := [watershedlaw05_SharesTells_e1]
theorem watershedlaw05_SharesTells_e1_ok : LeOk watershedlaw05_SharesTells_e1 (nthL (bodyOf Tryz.f3) 0) := fun A env h k z hk => le_ok (E := watershedlaw05_SharesTells_e1) (orcOf_ok watershedlaw05_SharesTells_tb) (dr := watershedlaw05_SharesTells_dr) (lps := lpsOf watershedlaw05_SharesTells_lt) (no_loop (by kernel_rfl)) (fun a => by kernel_rfl) env h k z hk
noncomputable def watershedlaw05_SharesTells (x0 : DShares) (x1 : DSpan) (x2 : Int) (x3 : List (List UInt8)) : Option ((Bool) × (Unit)) :=
  (watershedlaw05_awake).bind fun r1 =>
  (bif (!r1.1) then
  some (false, ())
  else
  (if ([x1.lo, x1.hi] : List (List UInt8)).length + x3.length ≤ 140737488355328 ∧ (([x1.lo, x1.hi] : List (List UInt8)).length + x3.length) * 16 ≤ 140737488355328 then
  (watershedlaw05_great x0 (([x1.lo, x1.hi] : List (List UInt8)) ++ x3)).bind fun r2 =>
  (bif r2.1 then
  some (true, ())
  else
  (watershedkit_LentShares x0).bind fun r3 =>
  (shares_Turn_ar (⟨r3.1.1, r3.1.2.1.1⟩ : DShares) x1 x2).bind fun r4 =>
  (watershedref05_Turn x0 x1 x2).bind fun r5 =>
  (shares_In (⟨r3.1.1, r3.1.2.1.1⟩ : DShares) x1).bind fun r6 =>
  (watershedref05_In x0 x1).bind fun r7 =>
  (shares_Groups (⟨r3.1.1, r3.1.2.1.1⟩ : DShares) x3).bind fun r8 =>
  (watershedref05_Groups x0 x3).bind fun r9 =>
  (bif (decide ((r4.1.2.1 : Int) ≠ r5.1.2.1)) then
  some (false, ())
  else
  (watershedkit_SameShares (r4.1.1.1, r4.1.1.2.1, ()) r5.1.1 r4.2.1).bind fun r10 =>
  (bif (!r10.1) then
  some (false, ())
  else
  (bif (!(decide (r6.1.1.span.lo = r7.1.1.span.lo) && (decide (r6.1.1.span.hi = r7.1.1.span.hi) && (decide ((r6.1.1.group : Int) = r7.1.1.group) && (decide ((r6.1.1.epoch : Int) = r7.1.1.epoch) && true))))) then
  some (false, ())
  else
  (bif (decide (r6.1.2.1 ≠ r7.1.2.1)) then
  some (false, ())
  else
  (bif (decide (r8.1.2.1 ≠ r9.1.2.1)) then
  some (false, ())
  else
  (watershedkit_SameInts (r8.1.1.1, r8.1.1.2) r9.1.1 r8.2.1 r9.2.1).bind fun r11 =>
  (bif (!r11.1) then
  some (false, ())
  else
  (shares_Right (⟨r3.1.1, r3.1.2.1.1⟩ : DShares)).bind fun r12 =>
  (watershedref05_Right x0).bind fun r13 =>
  (bif (decide (r12.1 ≠ r13.1)) then
  some (false, ())
  else
  (shares_First x2).bind fun r14 =>
  (watershedref05_First x2).bind fun r15 =>
  (watershedkit_SameShares_2 r14.1 r15.1).bind fun r16 =>
  (bif (!r16.1) then
  some (false, ())
  else
  (loopM watershedlaw05_SharesTells_l1 ((x3, (), (), (), 0, ()), (x0, (r3.1.1, (r3.1.2.1.1, r3.1.2.1.2), ()), (r4.1.1.1, r4.1.1.2.1, ()), r10.2.1, ()))).bind fun b17 =>
  (match b17 with
  | .inl b18 =>
  some (b18.1.1, ())
  | .inr b19 =>
  (watershedkit_OverShares (b19.2.2.2.1.1, b19.2.2.2.1.2.1, ()) b19.2.2.2.2.1).bind fun r20 =>
  (watershedkit_KeptShares (b19.2.2.1.1, (b19.2.2.1.2.1.1, b19.2.2.1.2.1.2), ()) b19.2.1).bind fun r21 =>
  some (r21.1, ())))))))))))
  else none))
noncomputable def watershedlaw05_SharesTells_ce : CE CT Tryz.prog where
  f := 3
  args := [.cod 9, .cod 4, .one (.int .i64), .one (.sl 2)]
  hs := []
  res := .val (.one (.bool))
  outs := []
  m := fun d dh => watershedlaw05_SharesTells d.1 d.2.1 d.2.2.1 d.2.2.2.1
  ok := ce_ok mixedP Tryz.func3 (by kernel_rfl) (orcOf_ok watershedlaw05_SharesTells_tb) (dr := watershedlaw05_SharesTells_dr) (lps := lpsOf watershedlaw05_SharesTells_lt) (lps_fn (lps_of (n := 1) (by kernel_rfl) fun i hi => match i, hi with | 0, _ => lp_ok (E := watershedlaw05_SharesTells_e1) (by kernel_rfl) watershedlaw05_SharesTells_e1_ok)) (fun d dh => by kernel_rfl)

def watershedlaw05_SharesEnds_dr : Nat → DrA
  | 20 => ⟨[0, 1, 2, 4, 5, 6, 8, 9, 10, 11, 12, 13, 14, 15, 3, 7, 16, 17, 18, 19, 20, 21], [[], [], [0, 1], [0, 1, 2], [], [], [4, 5], [4, 5, 6], [], [], [], [9, 10], [], [12], [9, 10, 11, 12, 13], [8, 9, 10, 11, 12, 13, 14], [8, 9, 10, 11, 12, 13, 14, 15], [4, 5, 6, 7, 8, 9, 10, 11, 12, 13, 14, 15, 16], [4, 5, 6, 7, 8, 9, 10, 11, 12, 13, 14, 15, 16, 17], [0, 1, 2, 3, 4, 5, 6, 7, 8, 9, 10, 11, 12, 13, 14, 15, 16, 17, 18], [], [0, 1, 2, 3, 4, 5, 6, 7, 8, 9, 10, 11, 12, 13, 14, 15, 16, 17, 18, 19, 20]], [], [], [], false⟩
  | 22 => ⟨[1, 2, 3, 4, 0, 5, 6, 7, 8, 9, 11, 12, 13, 14, 10, 15, 16, 17, 18, 19, 20, 22, 21, 23, 24, 25], [[], [], [], [], [2, 3], [2, 3, 4], [], [0, 1, 2, 3, 4, 5, 6], [0, 1, 2, 3, 4, 5, 6, 7], [0, 1, 2, 3, 4, 5, 6, 7, 8], [0, 1, 2, 3, 4, 5, 6, 7, 8, 9], [0, 1, 2, 3, 4, 5, 6, 7, 8, 9], [0, 1, 2, 3, 4, 5, 6, 7, 8, 9], [0, 1, 2, 3, 4, 5, 6, 7, 8, 9], [0, 1, 2, 3, 4, 5, 6, 7, 8, 9, 12, 13], [0, 1, 2, 3, 4, 5, 6, 7, 8, 9, 12, 13, 14], [0, 1, 2, 3, 4, 5, 6, 7, 8, 9], [0, 1, 2, 3, 4, 5, 6, 7, 8, 9, 10, 11, 12, 13, 14, 15, 16], [0, 1, 2, 3, 4, 5, 6, 7, 8, 9, 10, 11, 12, 13, 14, 15, 16, 17], [0, 1, 2, 3, 4, 5, 6, 7, 8, 9, 10, 11, 12, 13, 14, 15, 16, 17, 18], [0, 1, 2, 3, 4, 5, 6, 7, 8, 9, 10, 11, 12, 13, 14, 15, 16, 17, 18, 19], [0, 1, 2, 3, 4, 5, 6, 7, 8, 9, 10, 11, 12, 13, 14, 15, 16, 17, 18, 19, 20], [0, 1, 2, 3, 4, 5, 6, 7, 8, 9, 10, 11, 12, 13, 14, 15, 16, 17, 18, 19, 20], [0, 1, 2, 3, 4, 5, 6, 7, 8, 9, 10, 11, 12, 13, 14, 15, 16, 17, 18, 19, 20, 21, 22], [0, 1, 2, 3, 4, 5, 6, 7, 8, 9, 10, 11, 12, 13, 14, 15, 16, 17, 18, 19, 20, 21, 22, 23], [0, 1, 2, 3, 4, 5, 6, 7, 8, 9, 10, 11, 12, 13, 14, 15, 16, 17, 18, 19, 20, 21, 22, 23, 24]], [], [], [], false⟩
  | _ => ⟨[], [], [], [], [], false⟩
noncomputable def watershedlaw05_SharesEnds_tb : List (CE CT Tryz.prog) := [watershedlaw05_awake_ce, shares_First_ce, watershedlaw05_SharesTells_ce, shares_Turn_ce]
noncomputable def watershedlaw05_SharesEnds_l1 (a : ((Unit) × (Int) × Unit) × ((DShares) × Unit)) : Option ((((Unit) × (Int) × Unit) × ((DShares) × Unit)) ⊕ ((((Bool) × Unit) × ((DShares) × Unit)) ⊕ (((Unit) × Unit) × ((DShares) × Unit)))) :=
  (bif (decide ((a.1.2.1 : Int) < 45)) then
  (b8 (IntKind.u8.wrap (IntKind.i64.wrap (97 + (IntKind.i64.wrap ((a.1.2.1 : Int).tdiv 10)))))).bind fun u1 =>
  (b8 (IntKind.u8.wrap (IntKind.i64.wrap (48 + ((a.1.2.1 : Int).tmod 10))))).bind fun u2 =>
  (if ([97] : List UInt8).length + ([u1, u2] : List (UInt8)).length ≤ 140737488355328 then
  (watershedlaw05_SharesTells a.2.1 (⟨(([97] : List UInt8) ++ ([u1, u2] : List (UInt8))), ([] : List UInt8)⟩ : DSpan) (IntKind.i64.wrap ((IntKind.i64.wrap (1 + (((IntKind.i64.wrap (a.1.2.1 + 1)) : Int).tmod 2))) + 1)) ([(([97] : List UInt8) ++ ([u1, u2] : List (UInt8))), ([97] : List UInt8), ([122] : List UInt8)] : List (List UInt8))).bind fun r3 =>
  (bif (!r3.1) then
  some (.inr (.inl ((false, ()), (a.2.1, ()))))
  else
  (shares_Turn a.2.1 (⟨(([97] : List UInt8) ++ ([u1, u2] : List (UInt8))), ([] : List UInt8)⟩ : DSpan) (IntKind.i64.wrap (2 + ((a.1.2.1 : Int).tmod 3)))).bind fun r4 =>
  (bif (decide ((r4.1.2.1 : Int) = 0)) then
  some (.inl (((), (IntKind.i64.wrap (a.1.2.1 + 1)), ()), ((⟨r4.1.1.1, r4.1.1.2.1⟩ : DShares), ())))
  else
  some (.inl (((), (IntKind.i64.wrap (a.1.2.1 + 1)), ()), (a.2.1, ())))))
  else none)
  else
  some (.inr (.inr (((), ()), (a.2.1, ())))))
noncomputable def watershedlaw05_SharesEnds_e1 : LE CT Tryz.prog := ⟨5, [1, 2], [.one (.ptr 0 0), .one (.int .i64)], [.cobj 24 9], [⟨.ret, [0], [.one (.bool)], [.cobj 24 9]⟩, ⟨.exit 0, [1], [.one (.ptr 0 0)], [.cobj 24 9]⟩], watershedlaw05_SharesEnds_l1⟩
noncomputable def watershedlaw05_SharesEnds_l3 (a : ((Unit) × (List (Int)) × (Int) × (Int) × Unit) × ((DShares) × (Unit) × Unit)) : Option ((((Unit) × (List (Int)) × (Int) × (Int) × Unit) × ((DShares) × (Unit) × Unit)) ⊕ ((((Bool) × Unit) × ((DShares) × (Unit) × Unit)) ⊕ (((Unit) × (List (Int)) × (Int) × Unit) × ((DShares) × (Unit) × (Unit) × Unit)))) :=
  (bif (decide ((a.1.2.2.2.1 : Int) < (a.1.2.1.length : Int))) then
  (getI a.1.2.1 a.1.2.2.1).bind fun e1 =>
  (getI a.1.2.1 a.1.2.2.2.1).bind fun e2 =>
  (if ((a.1.2.1.length : Int) : Int) = 0 then none else
  (getI a.1.2.1 (((IntKind.i64.wrap (a.1.2.2.1 + a.1.2.2.2.1)) : Int).tmod (a.1.2.1.length : Int))).bind fun e3 =>
  (getI a.1.2.1 a.1.2.2.1).bind fun e4 =>
  (getI a.1.2.1 a.1.2.2.2.1).bind fun e5 =>
  (watershedlaw05_SharesTells (⟨e1, ([(⟨(⟨([] : List UInt8), ([] : List UInt8)⟩ : DSpan), e2, e3⟩ : DShare)] : List (DShare))⟩ : DShares) (⟨([109] : List UInt8), ([] : List UInt8)⟩ : DSpan) e5 ([([109] : List UInt8)] : List (List UInt8))).bind fun r6 =>
  (bif (!r6.1) then
  some (.inr (.inl ((false, ()), (a.2.1, (), ()))))
  else
  (getI a.1.2.1 a.1.2.2.2.1).bind fun e7 =>
  (watershedlaw05_SharesTells (⟨e4, ([(⟨(⟨([] : List UInt8), ([] : List UInt8)⟩ : DSpan), 1, 1⟩ : DShare)] : List (DShare))⟩ : DShares) (⟨([109] : List UInt8), ([] : List UInt8)⟩ : DSpan) e7 ([([109] : List UInt8)] : List (List UInt8))).bind fun r8 =>
  (bif (!r8.1) then
  some (.inr (.inl ((false, ()), (a.2.1, (), ()))))
  else
  (watershedlaw05_SharesTells (⟨e4, ([(⟨(⟨([] : List UInt8), ([] : List UInt8)⟩ : DSpan), 1, 1⟩ : DShare)] : List (DShare))⟩ : DShares) (⟨([98] : List UInt8), ([97] : List UInt8)⟩ : DSpan) 2 []).bind fun r9 =>
  (bif (!r9.1) then
  some (.inr (.inl ((false, ()), (a.2.1, (), ()))))
  else
  some (.inl (((), a.1.2.1, a.1.2.2.1, (IntKind.i64.wrap (a.1.2.2.2.1 + 1)), ()), (a.2.1, (), ())))))))
  else
  some (.inr (.inr (((), a.1.2.1, a.1.2.2.1, ()), (a.2.1, (), (), ())))))
noncomputable def watershedlaw05_SharesEnds_e3 : LE CT Tryz.prog := ⟨18, [1, 6, 7, 8], [.one (.ptr 0 0), .one (.own 0 1), .one (.int .i64), .one (.int .i64)], [.cobj 24 9, .row 3 1], [⟨.ret, [0], [.one (.bool)], [.cobj 24 9, .dead]⟩, ⟨.exit 4, [1, 6, 7], [.one (.ptr 0 0), .one (.own 0 2), .one (.int .i64)], [.cobj 24 9, .dead, .row 3 1]⟩], watershedlaw05_SharesEnds_l3⟩
noncomputable def watershedlaw05_SharesEnds_l2 (a : ((Unit) × (List (Int)) × (Int) × Unit) × ((DShares) × (Unit) × Unit)) : Option ((((Unit) × (List (Int)) × (Int) × Unit) × ((DShares) × (Unit) × Unit)) ⊕ ((((Bool) × Unit) × ((DShares) × (Unit) × Unit)) ⊕ (((Unit) × Unit) × ((DShares) × (Unit) × Unit)))) :=
  (bif (decide ((a.1.2.2.1 : Int) < (a.1.2.1.length : Int))) then
  (loopM watershedlaw05_SharesEnds_l3 (((), a.1.2.1, a.1.2.2.1, 0, ()), (a.2.1, (), ()))).bind fun b1 =>
  (match b1 with
  | .inl b2 =>
  some (.inr (.inl ((b2.1.1, ()), (b2.2.1, (), ()))))
  | .inr b3 =>
  some (.inl (((), b3.1.2.1, (IntKind.i64.wrap (b3.1.2.2.1 + 1)), ()), (b3.2.1, (), ()))))
  else
  some (.inr (.inr (((), ()), (a.2.1, (), ())))))
noncomputable def watershedlaw05_SharesEnds_e2 : LE CT Tryz.prog := ⟨15, [1, 6, 7], [.one (.ptr 0 0), .one (.own 0 1), .one (.int .i64)], [.cobj 24 9, .row 3 1], [⟨.ret, [0], [.one (.bool)], [.cobj 24 9, .dead]⟩, ⟨.exit 2, [1], [.one (.ptr 0 0)], [.cobj 24 9, .dead]⟩], watershedlaw05_SharesEnds_l2⟩
noncomputable def watershedlaw05_SharesEnds_lt : List (LE CT Tryz.prog) := [watershedlaw05_SharesEnds_e1, watershedlaw05_SharesEnds_e3, watershedlaw05_SharesEnds_e2]
theorem watershedlaw05_SharesEnds_e1_ok : LeOk watershedlaw05_SharesEnds_e1 (nthL (bodyOf Tryz.f4) 0) := fun A env h k z hk => le_ok (E := watershedlaw05_SharesEnds_e1) (orcOf_ok watershedlaw05_SharesEnds_tb) (dr := watershedlaw05_SharesEnds_dr) (lps := lpsOf watershedlaw05_SharesEnds_lt) (no_loop (by kernel_rfl)) (fun a => by kernel_rfl) env h k z hk
theorem watershedlaw05_SharesEnds_e3_ok : LeOk watershedlaw05_SharesEnds_e3 (nthL (nthL (bodyOf Tryz.f4) 1) 0) := fun A env h k z hk => le_ok (E := watershedlaw05_SharesEnds_e3) (orcOf_ok watershedlaw05_SharesEnds_tb) (dr := watershedlaw05_SharesEnds_dr) (lps := lpsOf watershedlaw05_SharesEnds_lt) (no_loop (by kernel_rfl)) (fun a => by kernel_rfl) env h k z hk
theorem watershedlaw05_SharesEnds_e2_ok : LeOk watershedlaw05_SharesEnds_e2 (nthL (bodyOf Tryz.f4) 1) := fun A env h k z hk => le_ok (E := watershedlaw05_SharesEnds_e2) (orcOf_ok watershedlaw05_SharesEnds_tb) (dr := watershedlaw05_SharesEnds_dr) (lps := lpsOf watershedlaw05_SharesEnds_lt) (lps_of (n := 1) (by kernel_rfl) fun i hi => match i, hi with | 0, _ => lp_ok (E := watershedlaw05_SharesEnds_e3) (by kernel_rfl) watershedlaw05_SharesEnds_e3_ok) (fun a => by kernel_rfl) env h k z hk
noncomputable def watershedlaw05_SharesEnds  : Option ((Bool) × (Unit)) :=
  (watershedlaw05_awake).bind fun r1 =>
  (bif (!r1.1) then
  some (false, ())
  else
  (shares_First 1).bind fun r2 =>
  (loopM watershedlaw05_SharesEnds_l1 (((), 0, ()), (r2.1, ()))).bind fun b3 =>
  (match b3 with
  | .inl b4 =>
  some (b4.1.1, ())
  | .inr b5 =>
  (loopM watershedlaw05_SharesEnds_l2 (((), ([(-1), 0, 1, 2, 4, 5, 1073741824, 1073741825] : List (Int)), 0, ()), (b5.2.1, (), ()))).bind fun b6 =>
  (match b6 with
  | .inl b7 =>
  some (b7.1.1, ())
  | .inr b8 =>
  some ((decide (((b8.2.1.list.length : Int) : Int) = 40)), ()))))
noncomputable def watershedlaw05_SharesEnds_ce : CE CT Tryz.prog where
  f := 4
  args := []
  hs := []
  res := .val (.one (.bool))
  outs := []
  m := fun d dh => watershedlaw05_SharesEnds
  ok := ce_ok mixedP Tryz.func4 (by kernel_rfl) (orcOf_ok watershedlaw05_SharesEnds_tb) (dr := watershedlaw05_SharesEnds_dr) (lps := lpsOf watershedlaw05_SharesEnds_lt) (lps_fn (lps_of (n := 2) (by kernel_rfl) fun i hi => match i, hi with | 0, _ => lp_ok (E := watershedlaw05_SharesEnds_e1) (by kernel_rfl) watershedlaw05_SharesEnds_e1_ok | 1, _ => lp_ok (E := watershedlaw05_SharesEnds_e2) (by kernel_rfl) watershedlaw05_SharesEnds_e2_ok)) (fun d dh => by kernel_rfl)
end Go.Proofs.YtnmimignbgdfgaaGreat
