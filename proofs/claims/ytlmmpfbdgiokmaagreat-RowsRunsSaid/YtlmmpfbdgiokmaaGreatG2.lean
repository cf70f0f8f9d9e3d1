/- The laws. -/
import Derived.Test.YtlmmpfbdgiokmaaGreatG1
namespace Go.Proofs.YtlmmpfbdgiokmaaGreat
open Go.RowKit
set_option maxRecDepth 100000
set_option linter.unusedVariables false
def watershedlaw15_RowsRuns_dr : Nat → Nat → DrA
  | _, _ => ⟨[], [], [], [], [], false, []⟩
noncomputable def watershedlaw15_RowsRuns_tb : List (CE CT Tryz.prog) := [watershedlaw15_light_ce, watershedlaw15_awake_ce, rows_New_ce, watershedkit_Pick_ce, rows_Copy_ce, watershedkit_CopyLines_ce, watershedlaw15_act_2_ce, watershedlaw15_same_ce, rows_Get_ce, watershedref15_Get_ce, rows_In_2_ce, apartLines_ce]
noncomputable def watershedlaw15_RowsRuns_l1 (a : ((List (DDeed)) × (List (DDeed)) × (List (List UInt8)) × (Unit) × (Unit) × (Int) × (Unit) × (Unit) × (Int) × Unit) × (((Nat) × (Bool) × Unit) × (DRows) × ((List (DRow)) × Unit) × (List (DRow)) × (Unit) × Unit)) : Option (((((List (DDeed)) × (List (DDeed)) × (List (List UInt8)) × (Unit) × (Unit) × (Int) × (Unit) × (Unit) × (Int) × Unit) × (((Nat) × (Bool) × Unit) × (DRows) × ((List (DRow)) × Unit) × (List (DRow)) × (Unit) × Unit)) ⊕ (((List (DDeed)) × (List (DDeed)) × (List (List UInt8)) × (Unit) × (Unit) × (Int) × (Unit) × (Unit) × (Int) × Unit) × (((Nat) × (Bool) × Unit) × (DRows) × ((List (DRow)) × Unit) × ((Nat) × (Bool) × Unit) × (List (DRow)) × (Unit) × (List (DRow)) × Unit))) ⊕ ((((Bool) × Unit) × (((Nat) × (Bool) × Unit) × (DRows) × ((List (DRow)) × Unit) × (Unit) × (Unit) × (List (DRow)) × (Unit) × Unit)) ⊕ (((List (DDeed)) × (List (List UInt8)) × (Unit) × (Unit) × (Unit) × (Unit) × Unit) × (((Nat) × (Bool) × Unit) × (DRows) × ((List (DRow)) × Unit) × (Unit) × (Unit) × ((Nat) × (Bool) × Unit) × (List (DRow)) × (Unit) × (List (DRow)) × Unit)))) :=
  (bif (decide ((a.1.2.2.2.2.2.2.2.2.1 : Int) ≤ (a.1.1.length : Int))) then
  (bif (decide ((a.1.2.2.2.2.2.2.2.2.1 : Int) = a.1.2.2.2.2.2.1)) then
  (rows_Copy (a.2.1.1, a.2.1.2.1, ()) a.2.2.2.2.1).bind fun r1 =>
  (watershedkit_CopyLines a.2.2.1.l).bind fun r2 =>
  (bif (decide ((a.1.2.2.2.2.2.2.2.2.1 : Int) < (a.1.1.length : Int))) then
  (getI a.1.1 a.1.2.2.2.2.2.2.2.2.1).bind fun e3 =>
  (watershedlaw15_act_2 e3 (r1.2.1.1, r1.2.1.2.1, ()) a.2.2.1 r1.2.2.1).bind fun r4 =>
  (bif (!r4.1) then
  some (.inr (.inl ((false, ()), ((r4.2.1.1, r4.2.1.2.1, ()), r4.2.2.1, (r2.1, ()), (), (), r4.2.2.2.2.1, (), ()))))
  else
  (watershedlaw15_same (r4.2.1.1, r4.2.1.2.1, ()) r4.2.2.1 r4.2.2.2.2.1).bind fun r5 =>
  (bif (!r5.1) then
  some (.inr (.inl ((false, ()), ((r5.2.1.1, r5.2.1.2.1, ()), r5.2.2.1, (r2.1, ()), (), (), r5.2.2.2.1, (), ()))))
  else
  some (.inl (.inr ((a.1.1, a.1.2.1, a.1.2.2.1, (), (), a.1.2.2.2.2.2.1, (), (), (IntKind.i64.wrap (a.1.2.2.2.2.2.2.2.2.1 + 1)), ()), ((r5.2.1.1, r5.2.1.2.1, ()), r5.2.2.1, (r2.1, ()), (r1.2.2.2.1.1, r1.2.2.2.1.2.1, ()), r5.2.2.2.1, (), r1.2.2.2.2.1, ()))))))
  else
  some (.inl (.inr ((a.1.1, a.1.2.1, a.1.2.2.1, (), (), a.1.2.2.2.2.2.1, (), (), (IntKind.i64.wrap (a.1.2.2.2.2.2.2.2.2.1 + 1)), ()), ((r1.2.1.1, r1.2.1.2.1, ()), a.2.2.1, (r2.1, ()), (r1.2.2.2.1.1, r1.2.2.2.1.2.1, ()), r1.2.2.1, (), r1.2.2.2.2.1, ())))))
  else
  (bif (decide ((a.1.2.2.2.2.2.2.2.2.1 : Int) < (a.1.1.length : Int))) then
  (getI a.1.1 a.1.2.2.2.2.2.2.2.2.1).bind fun e6 =>
  (watershedlaw15_act_2 e6 (a.2.1.1, a.2.1.2.1, ()) a.2.2.1 a.2.2.2.2.1).bind fun r7 =>
  (bif (!r7.1) then
  some (.inr (.inl ((false, ()), ((r7.2.1.1, r7.2.1.2.1, ()), r7.2.2.1, (a.2.2.2.1.1, ()), (), (), r7.2.2.2.2.1, (), ()))))
  else
  (watershedlaw15_same (r7.2.1.1, r7.2.1.2.1, ()) r7.2.2.1 r7.2.2.2.2.1).bind fun r8 =>
  (bif (!r8.1) then
  some (.inr (.inl ((false, ()), ((r8.2.1.1, r8.2.1.2.1, ()), r8.2.2.1, (a.2.2.2.1.1, ()), (), (), r8.2.2.2.1, (), ()))))
  else
  some (.inl (.inl ((a.1.1, a.1.2.1, a.1.2.2.1, (), (), a.1.2.2.2.2.2.1, (), (), (IntKind.i64.wrap (a.1.2.2.2.2.2.2.2.2.1 + 1)), ()), ((r8.2.1.1, r8.2.1.2.1, ()), r8.2.2.1, (a.2.2.2.1.1, ()), r8.2.2.2.1, (), ()))))))
  else
  some (.inl (.inl ((a.1.1, a.1.2.1, a.1.2.2.1, (), (), a.1.2.2.2.2.2.1, (), (), (IntKind.i64.wrap (a.1.2.2.2.2.2.2.2.2.1 + 1)), ()), ((a.2.1.1, a.2.1.2.1, ()), a.2.2.1, (a.2.2.2.1.1, ()), a.2.2.2.2.1, (), ()))))))
  else
  none)
noncomputable def watershedlaw15_RowsRuns_l1b (a : ((List (DDeed)) × (List (DDeed)) × (List (List UInt8)) × (Unit) × (Unit) × (Int) × (Unit) × (Unit) × (Int) × Unit) × (((Nat) × (Bool) × Unit) × (DRows) × ((List (DRow)) × Unit) × ((Nat) × (Bool) × Unit) × (List (DRow)) × (Unit) × (List (DRow)) × Unit)) : Option (((((List (DDeed)) × (List (DDeed)) × (List (List UInt8)) × (Unit) × (Unit) × (Int) × (Unit) × (Unit) × (Int) × Unit) × (((Nat) × (Bool) × Unit) × (DRows) × ((List (DRow)) × Unit) × (List (DRow)) × (Unit) × Unit)) ⊕ (((List (DDeed)) × (List (DDeed)) × (List (List UInt8)) × (Unit) × (Unit) × (Int) × (Unit) × (Unit) × (Int) × Unit) × (((Nat) × (Bool) × Unit) × (DRows) × ((List (DRow)) × Unit) × ((Nat) × (Bool) × Unit) × (List (DRow)) × (Unit) × (List (DRow)) × Unit))) ⊕ ((((Bool) × Unit) × (((Nat) × (Bool) × Unit) × (DRows) × ((List (DRow)) × Unit) × (Unit) × (Unit) × (List (DRow)) × (Unit) × Unit)) ⊕ (((List (DDeed)) × (List (List UInt8)) × (Unit) × (Unit) × (Unit) × (Unit) × Unit) × (((Nat) × (Bool) × Unit) × (DRows) × ((List (DRow)) × Unit) × (Unit) × (Unit) × ((Nat) × (Bool) × Unit) × (List (DRow)) × (Unit) × (List (DRow)) × Unit)))) :=
  (bif (decide ((a.1.2.2.2.2.2.2.2.2.1 : Int) ≤ (a.1.1.length : Int))) then
  (bif (decide ((a.1.2.2.2.2.2.2.2.2.1 : Int) = a.1.2.2.2.2.2.1)) then
  (rows_Copy (a.2.1.1, a.2.1.2.1, ()) a.2.2.2.2.2.1).bind fun r1 =>
  (watershedkit_CopyLines a.2.2.1.l).bind fun r2 =>
  (bif (decide ((a.1.2.2.2.2.2.2.2.2.1 : Int) < (a.1.1.length : Int))) then
  (getI a.1.1 a.1.2.2.2.2.2.2.2.2.1).bind fun e3 =>
  (watershedlaw15_act_2 e3 (r1.2.1.1, r1.2.1.2.1, ()) a.2.2.1 r1.2.2.1).bind fun r4 =>
  (bif (!r4.1) then
  some (.inr (.inl ((false, ()), ((r4.2.1.1, r4.2.1.2.1, ()), r4.2.2.1, (r2.1, ()), (), (), r4.2.2.2.2.1, (), ()))))
  else
  (watershedlaw15_same (r4.2.1.1, r4.2.1.2.1, ()) r4.2.2.1 r4.2.2.2.2.1).bind fun r5 =>
  (bif (!r5.1) then
  some (.inr (.inl ((false, ()), ((r5.2.1.1, r5.2.1.2.1, ()), r5.2.2.1, (r2.1, ()), (), (), r5.2.2.2.1, (), ()))))
  else
  some (.inl (.inr ((a.1.1, a.1.2.1, a.1.2.2.1, (), (), a.1.2.2.2.2.2.1, (), (), (IntKind.i64.wrap (a.1.2.2.2.2.2.2.2.2.1 + 1)), ()), ((r5.2.1.1, r5.2.1.2.1, ()), r5.2.2.1, (r2.1, ()), (r1.2.2.2.1.1, r1.2.2.2.1.2.1, ()), r5.2.2.2.1, (), r1.2.2.2.2.1, ()))))))
  else
  some (.inl (.inr ((a.1.1, a.1.2.1, a.1.2.2.1, (), (), a.1.2.2.2.2.2.1, (), (), (IntKind.i64.wrap (a.1.2.2.2.2.2.2.2.2.1 + 1)), ()), ((r1.2.1.1, r1.2.1.2.1, ()), a.2.2.1, (r2.1, ()), (r1.2.2.2.1.1, r1.2.2.2.1.2.1, ()), r1.2.2.1, (), r1.2.2.2.2.1, ())))))
  else
  (bif (decide ((a.1.2.2.2.2.2.2.2.2.1 : Int) < (a.1.1.length : Int))) then
  (getI a.1.1 a.1.2.2.2.2.2.2.2.2.1).bind fun e6 =>
  (watershedlaw15_act_2 e6 (a.2.1.1, a.2.1.2.1, ()) a.2.2.1 a.2.2.2.2.2.1).bind fun r7 =>
  (bif (!r7.1) then
  some (.inr (.inl ((false, ()), ((r7.2.1.1, r7.2.1.2.1, ()), r7.2.2.1, (a.2.2.2.1.1, ()), (), (), r7.2.2.2.2.1, (), ()))))
  else
  (watershedlaw15_same (r7.2.1.1, r7.2.1.2.1, ()) r7.2.2.1 r7.2.2.2.2.1).bind fun r8 =>
  (bif (!r8.1) then
  some (.inr (.inl ((false, ()), ((r8.2.1.1, r8.2.1.2.1, ()), r8.2.2.1, (a.2.2.2.1.1, ()), (), (), r8.2.2.2.1, (), ()))))
  else
  some (.inl (.inr ((a.1.1, a.1.2.1, a.1.2.2.1, (), (), a.1.2.2.2.2.2.1, (), (), (IntKind.i64.wrap (a.1.2.2.2.2.2.2.2.2.1 + 1)), ()), ((r8.2.1.1, r8.2.1.2.1, ()), r8.2.2.1, (a.2.2.2.1.1, ()), (a.2.2.2.2.1.1, a.2.2.2.2.1.2.1, ()), r8.2.2.2.1, (), a.2.2.2.2.2.2.2.1, ()))))))
  else
  some (.inl (.inr ((a.1.1, a.1.2.1, a.1.2.2.1, (), (), a.1.2.2.2.2.2.1, (), (), (IntKind.i64.wrap (a.1.2.2.2.2.2.2.2.2.1 + 1)), ()), ((a.2.1.1, a.2.1.2.1, ()), a.2.2.1, (a.2.2.2.1.1, ()), (a.2.2.2.2.1.1, a.2.2.2.2.1.2.1, ()), a.2.2.2.2.2.1, (), a.2.2.2.2.2.2.2.1, ()))))))
  else
  some (.inr (.inr ((a.1.2.1, a.1.2.2.1, (), (), (), (), ()), ((a.2.1.1, a.2.1.2.1, ()), a.2.2.1, (a.2.2.2.1.1, ()), (), (), (a.2.2.2.2.1.1, a.2.2.2.2.1.2.1, ()), a.2.2.2.2.2.1, (), a.2.2.2.2.2.2.2.1, ())))))
noncomputable def watershedlaw15_RowsRuns_l1s (s : (((List (DDeed)) × (List (DDeed)) × (List (List UInt8)) × (Unit) × (Unit) × (Int) × (Unit) × (Unit) × (Int) × Unit) × (((Nat) × (Bool) × Unit) × (DRows) × ((List (DRow)) × Unit) × (List (DRow)) × (Unit) × Unit)) ⊕ (((List (DDeed)) × (List (DDeed)) × (List (List UInt8)) × (Unit) × (Unit) × (Int) × (Unit) × (Unit) × (Int) × Unit) × (((Nat) × (Bool) × Unit) × (DRows) × ((List (DRow)) × Unit) × ((Nat) × (Bool) × Unit) × (List (DRow)) × (Unit) × (List (DRow)) × Unit))) : Option (((((List (DDeed)) × (List (DDeed)) × (List (List UInt8)) × (Unit) × (Unit) × (Int) × (Unit) × (Unit) × (Int) × Unit) × (((Nat) × (Bool) × Unit) × (DRows) × ((List (DRow)) × Unit) × (List (DRow)) × (Unit) × Unit)) ⊕ (((List (DDeed)) × (List (DDeed)) × (List (List UInt8)) × (Unit) × (Unit) × (Int) × (Unit) × (Unit) × (Int) × Unit) × (((Nat) × (Bool) × Unit) × (DRows) × ((List (DRow)) × Unit) × ((Nat) × (Bool) × Unit) × (List (DRow)) × (Unit) × (List (DRow)) × Unit))) ⊕ ((((Bool) × Unit) × (((Nat) × (Bool) × Unit) × (DRows) × ((List (DRow)) × Unit) × (Unit) × (Unit) × (List (DRow)) × (Unit) × Unit)) ⊕ (((List (DDeed)) × (List (List UInt8)) × (Unit) × (Unit) × (Unit) × (Unit) × Unit) × (((Nat) × (Bool) × Unit) × (DRows) × ((List (DRow)) × Unit) × (Unit) × (Unit) × ((Nat) × (Bool) × Unit) × (List (DRow)) × (Unit) × (List (DRow)) × Unit)))) := match s with
  | .inl a => watershedlaw15_RowsRuns_l1 a
  | .inr a => watershedlaw15_RowsRuns_l1b a
noncomputable def watershedlaw15_RowsRuns_e1 : LE2 CT Tryz.prog := ⟨8, [0, 2, 3, 9, 10, 11, 12, 13, 14], [.one (.sl 6), .one (.sl 6), .one (.sl 2), .one (.ptr 0 0), .one (.ptr 1 0), .one (.int .i64), .one (.nilptr), .one (.ptr 2 0), .one (.int .i64)], [.obj 58 [.asz 3 3, .bool], .cobj 31 10, .obj 31 [.own 3 4], .arr 48 3 false, .row 48 2], [.one (.sl 6), .one (.sl 6), .one (.sl 2), .one (.ptr 0 0), .one (.ptr 1 0), .one (.int .i64), .one (.ptr 3 0), .one (.ptr 2 0), .one (.int .i64)], [.obj 58 [.asz 3 4, .bool], .cobj 31 10, .obj 31 [.own 3 5], .obj 58 [.asz 3 6, .bool], .arr 48 3 false, .row 48 2, .arr 48 3 false], [⟨.ret, [8], [.one (.bool)], [.obj 58 [.asz 3 5, .bool], .cobj 31 10, .obj 31 [.own 3 6], .dead, .dead, .arr 48 3 false, .row 48 2]⟩, ⟨.exit 0, [2, 3, 9, 10, 12, 13], [.one (.sl 6), .one (.sl 2), .one (.ptr 0 0), .one (.ptr 1 0), .one (.ptr 5 0), .one (.ptr 2 0)], [.obj 58 [.asz 3 6, .bool], .cobj 31 10, .obj 31 [.own 3 7], .dead, .dead, .obj 58 [.asz 3 8, .bool], .arr 48 3 false, .row 48 2, .arr 48 3 false]⟩], watershedlaw15_RowsRuns_l1s, rfl⟩
noncomputable def watershedlaw15_RowsRuns_l2 (a : ((List (DDeed)) × (List (List UInt8)) × (Unit) × (Unit) × (Unit) × (Unit) × (Int) × Unit) × (((Nat) × (Bool) × Unit) × (DRows) × ((Nat) × (Bool) × Unit) × (DRows) × (List (DRow)) × (List (DRow)) × Unit)) : Option ((((List (DDeed)) × (List (List UInt8)) × (Unit) × (Unit) × (Unit) × (Unit) × (Int) × Unit) × (((Nat) × (Bool) × Unit) × (DRows) × ((Nat) × (Bool) × Unit) × (DRows) × (List (DRow)) × (List (DRow)) × Unit)) ⊕ ((((Bool) × Unit) × (((Nat) × (Bool) × Unit) × (DRows) × ((Nat) × (Bool) × Unit) × (DRows) × (Unit) × (Unit) × (List (DRow)) × (List (DRow)) × Unit)) ⊕ (((List (List UInt8)) × (Unit) × (Unit) × (Unit) × (Unit) × Unit) × (((Nat) × (Bool) × Unit) × (DRows) × ((Nat) × (Bool) × Unit) × (DRows) × (Unit) × (Unit) × (List (DRow)) × (List (DRow)) × Unit)))) :=
  (bif (decide ((a.1.2.2.2.2.2.2.1 : Int) < (a.1.1.length : Int))) then
  (getI a.1.1 a.1.2.2.2.2.2.2.1).bind fun e1 =>
  (watershedlaw15_act_2 e1 (a.2.2.2.1.1, a.2.2.2.1.2.1, ()) a.2.2.2.2.1 a.2.2.2.2.2.2.1).bind fun r2 =>
  (bif (!r2.1) then
  some (.inr (.inl ((false, ()), ((a.2.1.1, a.2.1.2.1, ()), a.2.2.1, (r2.2.1.1, r2.2.1.2.1, ()), r2.2.2.1, (), (), a.2.2.2.2.2.1, r2.2.2.2.2.1, ()))))
  else
  (watershedlaw15_same (r2.2.1.1, r2.2.1.2.1, ()) r2.2.2.1 r2.2.2.2.2.1).bind fun r3 =>
  (bif (!r3.1) then
  some (.inr (.inl ((false, ()), ((a.2.1.1, a.2.1.2.1, ()), a.2.2.1, (r3.2.1.1, r3.2.1.2.1, ()), r3.2.2.1, (), (), a.2.2.2.2.2.1, r3.2.2.2.1, ()))))
  else
  some (.inl ((a.1.1, a.1.2.1, (), (), (), (), (IntKind.i64.wrap (a.1.2.2.2.2.2.2.1 + 1)), ()), ((a.2.1.1, a.2.1.2.1, ()), a.2.2.1, (r3.2.1.1, r3.2.1.2.1, ()), r3.2.2.1, a.2.2.2.2.2.1, r3.2.2.2.1, ())))))
  else
  some (.inr (.inr ((a.1.2.1, (), (), (), (), ()), ((a.2.1.1, a.2.1.2.1, ()), a.2.2.1, (a.2.2.2.1.1, a.2.2.2.1.2.1, ()), a.2.2.2.2.1, (), (), a.2.2.2.2.2.1, a.2.2.2.2.2.2.1, ())))))
noncomputable def watershedlaw15_RowsRuns_e2 : LE CT Tryz.prog := ⟨16, [2, 3, 9, 10, 12, 13, 15], [.one (.sl 6), .one (.sl 2), .one (.ptr 0 0), .one (.ptr 1 0), .one (.ptr 2 0), .one (.ptr 3 0), .one (.int .i64)], [.obj 58 [.asz 3 4, .bool], .cobj 31 10, .obj 58 [.asz 3 5, .bool], .cobj 31 10, .arr 48 3 false, .arr 48 3 false], [⟨.ret, [8], [.one (.bool)], [.obj 58 [.asz 3 6, .bool], .cobj 31 10, .obj 58 [.asz 3 7, .bool], .cobj 31 10, .dead, .dead, .arr 48 3 false, .arr 48 3 false]⟩, ⟨.exit 2, [3, 9, 10, 12, 13], [.one (.sl 2), .one (.ptr 0 0), .one (.ptr 1 0), .one (.ptr 2 0), .one (.ptr 3 0)], [.obj 58 [.asz 3 6, .bool], .cobj 31 10, .obj 58 [.asz 3 7, .bool], .cobj 31 10, .dead, .dead, .arr 48 3 false, .arr 48 3 false]⟩], watershedlaw15_RowsRuns_l2⟩
noncomputable def watershedlaw15_RowsRuns_l3 (a : ((List (List UInt8)) × (Unit) × (Unit) × (Unit) × (Unit) × (Int) × Unit) × (((Nat) × (Bool) × Unit) × (DRows) × ((Nat) × (Bool) × Unit) × (DRows) × (List (DRow)) × (List (DRow)) × Unit)) : Option ((((List (List UInt8)) × (Unit) × (Unit) × (Unit) × (Unit) × (Int) × Unit) × (((Nat) × (Bool) × Unit) × (DRows) × ((Nat) × (Bool) × Unit) × (DRows) × (List (DRow)) × (List (DRow)) × Unit)) ⊕ ((((Bool) × Unit) × (((Nat) × (Bool) × Unit) × (DRows) × ((Nat) × (Bool) × Unit) × (DRows) × (Unit) × (Unit) × (List (DRow)) × (List (DRow)) × Unit)) ⊕ (((Unit) × (Unit) × (Unit) × (Unit) × Unit) × (((Nat) × (Bool) × Unit) × (DRows) × ((Nat) × (Bool) × Unit) × (DRows) × (Unit) × (Unit) × (List (DRow)) × (List (DRow)) × Unit)))) :=
  (bif (decide ((a.1.2.2.2.2.2.1 : Int) < (a.1.1.length : Int))) then
  (getI a.1.1 a.1.2.2.2.2.2.1).bind fun e1 =>
  (rows_Get e1 (a.2.1.1, a.2.1.2.1, ()) a.2.2.2.2.2.1).bind fun r2 =>
  (getI a.1.1 a.1.2.2.2.2.2.1).bind fun e3 =>
  (watershedref15_Get e3 a.2.2.1).bind fun r4 =>
  (bif (decide (r2.1.2.1 ≠ r4.1.2.1)) then
  some (.inr (.inl ((false, ()), ((r2.2.1.1, r2.2.1.2.1, ()), r4.2.1, (a.2.2.2.1.1, a.2.2.2.1.2.1, ()), a.2.2.2.2.1, (), (), r2.2.2.1, a.2.2.2.2.2.2.1, ()))))
  else
  (bif (decide (r2.1.1 ≠ r4.1.1)) then
  some (.inr (.inl ((false, ()), ((r2.2.1.1, r2.2.1.2.1, ()), r4.2.1, (a.2.2.2.1.1, a.2.2.2.1.2.1, ()), a.2.2.2.2.1, (), (), r2.2.2.1, a.2.2.2.2.2.2.1, ()))))
  else
  some (.inl ((a.1.1, (), (), (), (), (IntKind.i64.wrap (a.1.2.2.2.2.2.1 + 1)), ()), ((r2.2.1.1, r2.2.1.2.1, ()), r4.2.1, (a.2.2.2.1.1, a.2.2.2.1.2.1, ()), a.2.2.2.2.1, r2.2.2.1, a.2.2.2.2.2.2.1, ())))))
  else
  some (.inr (.inr (((), (), (), (), ()), ((a.2.1.1, a.2.1.2.1, ()), a.2.2.1, (a.2.2.2.1.1, a.2.2.2.1.2.1, ()), a.2.2.2.2.1, (), (), a.2.2.2.2.2.1, a.2.2.2.2.2.2.1, ())))))
noncomputable def watershedlaw15_RowsRuns_e3 : LE CT Tryz.prog := ⟨21, [3, 9, 10, 12, 13, 16], [.one (.sl 2), .one (.ptr 0 0), .one (.ptr 1 0), .one (.ptr 2 0), .one (.ptr 3 0), .one (.int .i64)], [.obj 58 [.asz 3 4, .bool], .cobj 31 10, .obj 58 [.asz 3 5, .bool], .cobj 31 10, .arr 48 3 false, .arr 48 3 false], [⟨.ret, [8], [.one (.bool)], [.obj 58 [.asz 3 6, .bool], .cobj 31 10, .obj 58 [.asz 3 7, .bool], .cobj 31 10, .dead, .dead, .arr 48 3 false, .arr 48 3 false]⟩, ⟨.exit 4, [9, 10, 12, 13], [.one (.ptr 0 0), .one (.ptr 1 0), .one (.ptr 2 0), .one (.ptr 3 0)], [.obj 58 [.asz 3 6, .bool], .cobj 31 10, .obj 58 [.asz 3 7, .bool], .cobj 31 10, .dead, .dead, .arr 48 3 false, .arr 48 3 false]⟩], watershedlaw15_RowsRuns_l3⟩
noncomputable def watershedlaw15_RowsRuns_lt : List (LE CT Tryz.prog) := [watershedlaw15_RowsRuns_e2, watershedlaw15_RowsRuns_e3]
noncomputable def watershedlaw15_RowsRuns_ll : List (LE2 CT Tryz.prog) := [watershedlaw15_RowsRuns_e1]
theorem watershedlaw15_RowsRuns_e1_ok : ∀ {A : Type} (env : XE Ty) (h : List (HI Ty)) (k : XK Ty A) (z : A), runLE2 watershedlaw15_RowsRuns_e1 env h k = some z → ∃ ex env2 h2, k ex env2 h2 = some z ∧ CodeTr CT Tryz.prog (.loop (nthL (bodyOf Tryz.f3) 0)) env h ex env2 h2 := fun env h k z hk => le2_ok (E := watershedlaw15_RowsRuns_e1) (orcOf_ok watershedlaw15_RowsRuns_tb) (dr := watershedlaw15_RowsRuns_dr) (dr2 := watershedlaw15_RowsRuns_dr) (lps := lpsOf watershedlaw15_RowsRuns_lt) (no_loop (by kernel_rfl)) (fun a => by kernel_rfl) (fun a => by kernel_rfl) env h k z hk
theorem watershedlaw15_RowsRuns_e2_ok : LeOk watershedlaw15_RowsRuns_e2 (nthL (bodyOf Tryz.f3) 1) := fun A env h k z hk => le_ok (E := watershedlaw15_RowsRuns_e2) (orcOf_ok watershedlaw15_RowsRuns_tb) (dr := watershedlaw15_RowsRuns_dr) (lps := lpsOf watershedlaw15_RowsRuns_lt) (no_loop (by kernel_rfl)) (fun a => by kernel_rfl) env h k z hk
theorem watershedlaw15_RowsRuns_e3_ok : LeOk watershedlaw15_RowsRuns_e3 (nthL (bodyOf Tryz.f3) 2) := fun A env h k z hk => le_ok (E := watershedlaw15_RowsRuns_e3) (orcOf_ok watershedlaw15_RowsRuns_tb) (dr := watershedlaw15_RowsRuns_dr) (lps := lpsOf watershedlaw15_RowsRuns_lt) (no_loop (by kernel_rfl)) (fun a => by kernel_rfl) env h k z hk
noncomputable def watershedlaw15_RowsRuns (x0 : List (DDeed)) (x1 : Int) (x2 : List (DDeed)) (x3 : List (List UInt8)) : Option ((Bool) × (Unit)) :=
  (watershedlaw15_light x0).bind fun r1 =>
  (bif (!r1.1) then
  (watershedlaw15_awake).bind fun r2 =>
  some (r2.1, ())
  else
  (watershedlaw15_light x2).bind fun r3 =>
  (bif (!r3.1) then
  (watershedlaw15_awake).bind fun r4 =>
  some (r4.1, ())
  else
  (bif (decide ((200 : Int) < (x3.length : Int))) then
  (watershedlaw15_awake).bind fun r5 =>
  some (r5.1, ())
  else
  (rows_New).bind fun r6 =>
  (watershedkit_Pick x1 (IntKind.i64.wrap ((x0.length : Int) + 1))).bind fun r7 =>
  (loopM watershedlaw15_RowsRuns_l1s (.inl ((x0, x2, x3, (), (), r7.1, (), (), 0, ()), ((r6.2.1.1, r6.2.1.2.1, ()), (⟨[]⟩ : DRows), ([], ()), r6.2.2.1, (), ())))).bind fun b9 =>
  (match b9 with
  | .inl b10 =>
  some (b10.1.1, ())
  | .inr b11 =>
  (loopM watershedlaw15_RowsRuns_l2 ((b11.1.1, b11.1.2.1, (), (), (), (), 0, ()), ((b11.2.1.1, b11.2.1.2.1, ()), b11.2.2.1, (b11.2.2.2.2.2.2.1.1, b11.2.2.2.2.2.2.1.2.1, ()), (⟨b11.2.2.2.1.1⟩ : DRows), b11.2.2.2.2.2.2.2.1, b11.2.2.2.2.2.2.2.2.2.1, ()))).bind fun b12 =>
  (match b12 with
  | .inl b13 =>
  some (b13.1.1, ())
  | .inr b14 =>
  (loopM watershedlaw15_RowsRuns_l3 ((b14.1.1, (), (), (), (), 0, ()), ((b14.2.1.1, b14.2.1.2.1, ()), b14.2.2.1, (b14.2.2.2.1.1, b14.2.2.2.1.2.1, ()), b14.2.2.2.2.1, b14.2.2.2.2.2.2.2.1, b14.2.2.2.2.2.2.2.2.1, ()))).bind fun b15 =>
  (match b15 with
  | .inl b16 =>
  some (b16.1.1, ())
  | .inr b17 =>
  (watershedlaw15_same (b17.2.1.1, b17.2.1.2.1, ()) b17.2.2.1 b17.2.2.2.2.2.2.2.1).bind fun r18 =>
  (bif r18.1 then
  (watershedlaw15_same (b17.2.2.2.1.1, b17.2.2.2.1.2.1, ()) b17.2.2.2.2.1 b17.2.2.2.2.2.2.2.2.1).bind fun r19 =>
  (bif r19.1 then
  (rows_In_2 (⟨([] : List UInt8), ([] : List UInt8)⟩ : DSpan) (r18.2.1.1, r18.2.1.2.1, ()) r18.2.2.2.1).bind fun r20 =>
  (rows_In_2 (⟨([] : List UInt8), ([] : List UInt8)⟩ : DSpan) (r20.2.1.1, r20.2.1.2.1, ()) r20.2.2.1).bind fun r21 =>
  (apartLines (r20.1, r21.1, ()) r20.2.2.2.1 r21.2.2.2.1).bind fun r22 =>
  (bif r22.1 then
  (watershedlaw15_same (r21.2.1.1, r21.2.1.2.1, ()) r18.2.2.1 r21.2.2.1).bind fun r23 =>
  (bif r23.1 then
  (watershedlaw15_awake).bind fun r24 =>
  some (r24.1, ())
  else
  some (false, ()))
  else
  some (false, ()))
  else
  some (false, ()))
  else
  some (false, ()))))))))
noncomputable def watershedlaw15_RowsRuns_ce : CE CT Tryz.prog where
  f := 3
  args := [.one (.sl 6), .one (.int .i64), .one (.sl 6), .one (.sl 2)]
  hs := []
  res := .val (.one (.bool))
  outs := []
  m := fun d dh => watershedlaw15_RowsRuns d.1 d.2.1 d.2.2.1 d.2.2.2.1
  ok := ce_ok mixedP Tryz.func3 (by kernel_rfl) (orcOf_ok watershedlaw15_RowsRuns_tb) (dr := watershedlaw15_RowsRuns_dr) (lps := lps2 watershedlaw15_RowsRuns_ll (lpsOf watershedlaw15_RowsRuns_lt)) (lps_fn (lps_of (n := 3) (by kernel_rfl) fun i hi => match i, hi with | 0, _ => lps2_hit (E := watershedlaw15_RowsRuns_e1) (by kernel_rfl) watershedlaw15_RowsRuns_e1_ok | 1, _ => lps2_miss (by kernel_rfl) (lp_ok (E := watershedlaw15_RowsRuns_e2) (by kernel_rfl) watershedlaw15_RowsRuns_e2_ok) | 2, _ => lps2_miss (by kernel_rfl) (lp_ok (E := watershedlaw15_RowsRuns_e3) (by kernel_rfl) watershedlaw15_RowsRuns_e3_ok))) (fun d dh => by kernel_rfl)
end Go.Proofs.YtlmmpfbdgiokmaaGreat
