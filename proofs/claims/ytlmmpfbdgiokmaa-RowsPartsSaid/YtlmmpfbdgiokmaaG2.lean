/- The laws. -/
import Derived.Test.YtlmmpfbdgiokmaaG1
namespace Go.Proofs.Ytlmmpfbdgiokmaa
open Go.RowKit
set_option maxRecDepth 100000
set_option linter.unusedVariables false
def watershedlaw15_RowsBytes_dr : Nat → DrA
  | 11 => ⟨[0, 1, 2, 5, 6, 7, 3, 8, 9, 4, 11, 10, 12], [[], [], [0, 1], [0, 1, 2], [0, 1, 2, 3], [], [], [5, 6], [5, 6, 7], [5, 6, 7, 8], [5, 6, 7, 8, 9], [0, 1, 2, 3, 4], [0, 1, 2, 3, 4, 5, 6, 7, 8, 9, 10, 11]], [8], [4], [], false, []⟩
  | 14 => ⟨[0, 1, 2, 3, 4, 5, 6, 7, 8, 9, 10, 11, 12, 14, 15, 16, 17, 18, 13, 19, 20, 21], [[], [], [0, 1], [0, 1, 2], [0, 1, 2, 3], [0, 1, 2, 3], [0, 1, 2, 3, 4, 5], [0, 1, 2, 3, 4, 5, 6], [0, 1, 2, 3, 4, 5, 6, 7], [0, 1, 2, 3, 4, 5, 6, 7, 8], [0, 1, 2, 3, 4, 5, 6, 7, 8, 9], [0, 1, 2, 3, 4, 5, 6, 7, 8, 9, 10], [0, 1, 2, 3, 4, 5, 6, 7, 8, 9, 10, 11], [0, 1, 2, 3, 4, 5, 6, 7, 8, 9, 10, 11, 12], [0, 1, 2, 3, 4, 5, 6, 7, 8, 9, 10, 11], [0, 1, 2, 3, 4, 5, 6, 7, 8, 9, 10, 11, 14], [0, 1, 2, 3, 4, 5, 6, 7, 8, 9, 10, 11, 14, 15], [0, 1, 2, 3, 4, 5, 6, 7, 8, 9, 10, 11, 14, 15, 16], [0, 1, 2, 3, 4, 5, 6, 7, 8, 9, 10, 11, 14, 15, 16, 17], [0, 1, 2, 3, 4, 5, 6, 7, 8, 9, 10, 11, 12, 13, 14, 15, 16, 17, 18], [0, 1, 2, 3, 4, 5, 6, 7, 8, 9, 10, 11, 12, 13, 14, 15, 16, 17, 18, 19], [0, 1, 2, 3, 4, 5, 6, 7, 8, 9, 10, 11, 12, 13, 14, 15, 16, 17, 18, 19, 20]], [17], [13], [3], false, []⟩
  | _ => ⟨[], [], [], [], [], false, []⟩
noncomputable def watershedlaw15_RowsBytes_tb : List (CE CT Try.prog) := [watershedkit_LinesOf_ce, watershedlaw15_awake_ce, watershedkit_LentLines_x_ce, wire_NewWriter_ce, rows_Write_ce, wire_Done_ce, watershedref15_Bytes_ce, watershedkit_SameBytes_ce, watershedkit_KeptLines_ce, wire_NewReader_ce, rows_Read_ce, watershedref15_Read_ce, watershedkit_SameLines_ce, wire_Left_ce]
noncomputable def watershedlaw15_RowsBytes_l1 (a : ((List (List (UInt8))) × (Int) × Unit) × ((Unit) × Unit)) : Option ((((List (List (UInt8))) × (Int) × Unit) × ((Unit) × Unit)) ⊕ ((((Bool) × Unit) × ((Unit) × Unit)) ⊕ ((Unit) × ((Unit) × Unit)))) :=
  (bif (decide ((a.1.2.1 : Int) < 2)) then
  (getI a.1.1 a.1.2.1).bind fun e1 =>
  (getI a.1.1 a.1.2.1).bind fun e2 =>
  (wire_NewReader e1).bind fun r3 =>
  (rows_Read (r3.2.1.1, r3.2.1.2.1, r3.2.1.2.2.1, ())).bind fun r4 =>
  (watershedref15_Read (⟨e2, false⟩ : DReader2)).bind fun r5 =>
  (bif (decide (r4.1.2.1 ≠ r5.1.2.1)) then
  some (.inr (.inl ((false, ()), ((), ()))))
  else
  (watershedkit_SameLines r4.1.1 r5.1.1).bind fun r6 =>
  (bif (!r6.1) then
  some (.inr (.inl ((false, ()), ((), ()))))
  else
  (bif r4.1.2.1 then
  (wire_Left r4.2.1).bind fun r7 =>
  (bif (decide ((r7.1 : Int) ≠ (r5.2.1.left.length : Int))) then
  some (.inr (.inl ((false, ()), ((), ()))))
  else
  some (.inl ((a.1.1, (IntKind.i64.wrap (a.1.2.1 + 1)), ()), ((), ()))))
  else
  some (.inl ((a.1.1, (IntKind.i64.wrap (a.1.2.1 + 1)), ()), ((), ()))))))
  else
  some (.inr (.inr ((), ((), ())))))
noncomputable def watershedlaw15_RowsBytes_e1 : LE CT Try.prog := ⟨9, [8, 9], [.one (.own 10 0), .one (.int .i64)], [.row 39 1], [⟨.ret, [4], [.one (.bool)], [.dead]⟩, ⟨.exit 0, [], [], [.dead]⟩], watershedlaw15_RowsBytes_l1⟩
noncomputable def watershedlaw15_RowsBytes_lt : List (LE CT Try.prog) := [watershedlaw15_RowsBytes_e1]
theorem watershedlaw15_RowsBytes_e1_ok : LeOk watershedlaw15_RowsBytes_e1 (nthL (bodyOf Try.f4) 0) := fun A env h k z hk => le_ok (E := watershedlaw15_RowsBytes_e1) (orcOf_ok watershedlaw15_RowsBytes_tb) (dr := watershedlaw15_RowsBytes_dr) (lps := lpsOf watershedlaw15_RowsBytes_lt) (no_loop (by kernel_rfl)) (fun a => by kernel_rfl) env h k z hk
noncomputable def watershedlaw15_RowsBytes (x0 : List (DRow)) (x1 : List (UInt8)) : Option ((Bool) × (Unit)) :=
  (watershedkit_LinesOf x0 1200).bind fun r1 =>
  (bif (decide ((1200 : Int) < r1.1)) then
  (watershedlaw15_awake).bind fun r2 =>
  some (r2.1, ())
  else
  (bif (decide ((20000 : Int) < (x1.length : Int))) then
  (watershedlaw15_awake).bind fun r3 =>
  some (r3.1, ())
  else
  (watershedkit_LentLines_x x0).bind fun r4 =>
  (wire_NewWriter).bind fun r5 =>
  (rows_Write r4.1.1 (r5.2.1.1, r5.2.1.2.1, r5.2.1.2.2.1, ())).bind fun r6 =>
  (wire_Done (r6.2.1.1, r6.2.1.2.1, r6.2.1.2.2.1, ())).bind fun r7 =>
  (bif (decide ((r7.1.2.1 : Int) ≠ 0)) then
  some (false, ())
  else
  (watershedref15_Bytes x0).bind fun r8 =>
  (watershedkit_SameBytes r7.1.1 r8.1).bind fun r9 =>
  (bif (!r9.1) then
  some (false, ())
  else
  (watershedkit_KeptLines (r4.1.1, r4.1.2) x0).bind fun r10 =>
  (bif (!r10.1) then
  some (false, ())
  else
  (loopM watershedlaw15_RowsBytes_l1 ((([r7.1.1, x1] : List (List (UInt8))), 0, ()), ((), ()))).bind fun b11 =>
  (match b11 with
  | .inl b12 =>
  some (b12.1.1, ())
  | .inr b13 =>
  (watershedlaw15_awake).bind fun r14 =>
  some (r14.1, ())))))))
noncomputable def watershedlaw15_RowsBytes_ce : CE CT Try.prog where
  f := 4
  args := [.one (.sl 3), .one (.sl 1)]
  hs := []
  res := .val (.one (.bool))
  outs := []
  m := fun d dh => watershedlaw15_RowsBytes d.1 d.2.1
  ok := ce_ok mixedP Try.func4 (by kernel_rfl) (orcOf_ok watershedlaw15_RowsBytes_tb) (dr := watershedlaw15_RowsBytes_dr) (lps := lpsOf watershedlaw15_RowsBytes_lt) (lps_fn (lps_of (n := 1) (by kernel_rfl) fun i hi => match i, hi with | 0, _ => lp_ok (E := watershedlaw15_RowsBytes_e1) (by kernel_rfl) watershedlaw15_RowsBytes_e1_ok)) (fun d dh => by kernel_rfl)

def watershedlaw15_RowsParts_dr : Nat → DrA
  | 31 => ⟨[0, 2, 3, 4, 5, 1, 6, 7, 8, 9, 10, 11, 12, 13, 14, 15, 16, 17, 18, 19, 20], [[], [], [], [], [2, 3], [2, 3, 4], [2, 3, 4, 5], [1, 2, 3, 4, 5, 6], [0, 1, 2, 3, 4, 5, 6, 7], [0, 1, 2, 3, 4, 5, 6, 7, 8], [0, 1, 2, 3, 4, 5, 6, 7, 8, 9], [0, 1, 2, 3, 4, 5, 6, 7, 8, 9, 10], [0, 1, 2, 3, 4, 5, 6, 7, 8, 9, 10, 11], [0, 1, 2, 3, 4, 5, 6, 7, 8, 9, 10, 11], [0, 1, 2, 3, 4, 5, 6, 7, 8, 9, 10, 11], [0, 1, 2, 3, 4, 5, 6, 7, 8, 9, 10, 11, 13, 14], [0, 1, 2, 3, 4, 5, 6, 7, 8, 9, 10, 11, 13, 14, 15], [0, 1, 2, 3, 4, 5, 6, 7, 8, 9, 10, 11, 13, 14, 15, 16], [0, 1, 2, 3, 4, 5, 6, 7, 8, 9, 10, 11, 12, 13, 14, 15, 16, 17], [0, 1, 2, 3, 4, 5, 6, 7, 8, 9, 10, 11, 12, 13, 14, 15, 16, 17, 18], [0, 1, 2, 3, 4, 5, 6, 7, 8, 9, 10, 11, 12, 13, 14, 15, 16, 17, 18, 19]], [], [], [], false, []⟩
  | _ => ⟨[], [], [], [], [], false, []⟩
noncomputable def watershedlaw15_RowsParts_tb : List (CE CT Try.prog) := [watershedlaw15_awake_ce, watershedlaw15_light_ce, rows_New_ce, watershedkit_Pick_ce, rows_Take_ce, rows_Put_ce, span_All_ce, rows_In_ce, span_Cut_ce, watershedkit_SameLines_ce, rows_Many_ce, rows_Get_ce, span_Has_ce, wire_NewWriter_ce, rows_Write_ce, wire_Done_ce, wire_NewReader_ce, rows_Read_ce]
noncomputable def watershedlaw15_RowsParts_l1 (a : ((List (DDeed)) × (List (List UInt8)) × (Unit) × (Unit) × (Int) × Unit) × ((DSpan) × ((Nat) × (Bool) × Unit) × (List (DRow)) × Unit)) : Option ((((List (DDeed)) × (List (List UInt8)) × (Unit) × (Unit) × (Int) × Unit) × ((DSpan) × ((Nat) × (Bool) × Unit) × (List (DRow)) × Unit)) ⊕ ((((List (List UInt8)) × (Unit) × (Unit) × Unit) × ((DSpan) × ((Nat) × (Bool) × Unit) × (Unit) × (List (DRow)) × Unit)))) :=
  (bif (decide ((a.1.2.2.2.2.1 : Int) < (a.1.1.length : Int))) then
  (getI a.1.1 a.1.2.2.2.2.1).bind fun e1 =>
  (watershedkit_Pick e1.kind 5).bind fun r2 =>
  (bif (decide ((r2.1 : Int) = 4)) then
  (getI a.1.1 a.1.2.2.2.2.1).bind fun e3 =>
  (rows_Take e3.span (a.2.2.1.1, a.2.2.1.2.1, ()) a.2.2.2.1).bind fun r4 =>
  some (.inl ((a.1.1, a.1.2.1, (), (), (IntKind.i64.wrap (a.1.2.2.2.2.1 + 1)), ()), (a.2.1, (r4.2.1.1, r4.2.1.2.1, ()), r4.2.2.2.2.1, ())))
  else
  (bif (decide ((r2.1 : Int) = 3)) then
  some (.inl ((a.1.1, a.1.2.1, (), (), (IntKind.i64.wrap (a.1.2.2.2.2.1 + 1)), ()), (a.2.1, (a.2.2.1.1, a.2.2.1.2.1, ()), a.2.2.2.1, ())))
  else
  (getI a.1.1 a.1.2.2.2.2.1).bind fun e5 =>
  (rows_Put e5.rows (a.2.2.1.1, a.2.2.1.2.1, ()) a.2.2.2.1).bind fun r6 =>
  some (.inl ((a.1.1, a.1.2.1, (), (), (IntKind.i64.wrap (a.1.2.2.2.2.1 + 1)), ()), (a.2.1, (r6.2.1.1, r6.2.1.2.1, ()), r6.2.2.2.1, ())))))
  else
  some (.inr ((a.1.2.1, (), (), ()), (a.2.1, (a.2.2.1.1, a.2.2.1.2.1, ()), (), a.2.2.2.1, ()))))
noncomputable def watershedlaw15_RowsParts_e1 : LE CT Try.prog := ⟨7, [0, 1, 5, 7, 8], [.one (.sl 16), .one (.sl 2), .one (.ptr 0 0), .one (.ptr 1 0), .one (.int .i64)], [.cobj 35 5, .obj 73 [.asz 3 2, .bool], .arr 32 3 false], [⟨.exit 0, [1, 5, 7], [.one (.sl 2), .one (.ptr 0 0), .one (.ptr 1 0)], [.cobj 35 5, .obj 73 [.asz 3 3, .bool], .dead, .arr 32 3 false]⟩], watershedlaw15_RowsParts_l1⟩
noncomputable def watershedlaw15_RowsParts_l2 (a : ((Unit) × (Unit) × (List (DRow)) × (List (DRow)) × (List (DSpan)) × (Int) × Unit) × ((DSpan) × ((Nat) × (Bool) × Unit) × (Unit) × (Unit) × (Unit) × (List (DRow)) × Unit)) : Option ((((Unit) × (Unit) × (List (DRow)) × (List (DRow)) × (List (DSpan)) × (Int) × Unit) × ((DSpan) × ((Nat) × (Bool) × Unit) × (Unit) × (Unit) × (Unit) × (List (DRow)) × Unit)) ⊕ ((((Unit) × (Unit) × (List (DRow)) × (List (DRow)) × Unit) × ((DSpan) × ((Nat) × (Bool) × Unit) × (Unit) × (Unit) × (Unit) × (Unit) × (Unit) × (Unit) × (List (DRow)) × Unit)))) :=
  (bif (decide ((a.1.2.2.2.2.2.1 : Int) < (a.1.2.2.2.2.1.length : Int))) then
  (getI a.1.2.2.2.2.1 a.1.2.2.2.2.2.1).bind fun e1 =>
  (rows_In e1 (a.2.2.1.1, a.2.2.1.2.1, ()) a.2.2.2.2.2.2.1).bind fun r2 =>
  (if a.1.2.2.2.1.length + r2.1.length ≤ 140737488355328 ∧ (a.1.2.2.2.1.length + r2.1.length) * 32 ≤ 140737488355328 then
  some (.inl (((), (), a.1.2.2.1, (a.1.2.2.2.1 ++ r2.1), a.1.2.2.2.2.1, (IntKind.i64.wrap (a.1.2.2.2.2.2.1 + 1)), ()), (a.2.1, (r2.2.1.1, r2.2.1.2.1, ()), (), (), (), r2.2.2.1, ())))
  else none)
  else
  some (.inr (((), (), a.1.2.2.1, a.1.2.2.2.1, ()), (a.2.1, (a.2.2.1.1, a.2.2.1.2.1, ()), (), (), (), (), (), (), a.2.2.2.2.2.2.1, ()))))
noncomputable def watershedlaw15_RowsParts_e2 : LE CT Try.prog := ⟨18, [5, 7, 9, 10, 11, 12], [.one (.ptr 0 0), .one (.ptr 1 0), .one (.own 3 2), .one (.own 3 3), .one (.own 5 4), .one (.int .i64)], [.cobj 35 5, .obj 73 [.asz 3 5, .bool], .row 32 2, .row 32 2, .row 35 2, .arr 32 3 false], [⟨.exit 3, [5, 7, 9, 10], [.one (.ptr 0 0), .one (.ptr 1 0), .one (.own 3 6), .one (.own 3 7)], [.cobj 35 5, .obj 73 [.asz 3 8, .bool], .dead, .dead, .dead, .dead, .row 32 2, .row 32 2, .arr 32 3 false]⟩], watershedlaw15_RowsParts_l2⟩
noncomputable def watershedlaw15_RowsParts_l3 (a : ((Unit) × (Unit) × (List (DRow)) × (List (DRow)) × (Int) × Unit) × ((DSpan) × ((Nat) × (Bool) × Unit) × (Unit) × (Unit) × (List (DRow)) × Unit)) : Option ((((Unit) × (Unit) × (List (DRow)) × (List (DRow)) × (Int) × Unit) × ((DSpan) × ((Nat) × (Bool) × Unit) × (Unit) × (Unit) × (List (DRow)) × Unit)) ⊕ ((((Bool) × Unit) × ((DSpan) × ((Nat) × (Bool) × Unit) × (Unit) × (Unit) × (Unit) × (List (DRow)) × Unit)) ⊕ (((Unit) × (List (DRow)) × (List (DRow)) × Unit) × ((DSpan) × ((Nat) × (Bool) × Unit) × (Unit) × (Unit) × (Unit) × (Unit) × (Unit) × (List (DRow)) × Unit)))) :=
  (bif (decide ((a.1.2.2.2.2.1 : Int) < (a.1.2.2.1.length : Int))) then
  (getI a.1.2.2.1 a.1.2.2.2.2.1).bind fun e1 =>
  (rows_Get e1.key (a.2.2.1.1, a.2.2.1.2.1, ()) a.2.2.2.2.2.1).bind fun r2 =>
  (getI a.1.2.2.1 a.1.2.2.2.2.1).bind fun e3 =>
  (span_Has a.2.1 e3.key).bind fun r4 =>
  (bif (decide (r2.1.2.1 = r4.1)) then
  some (.inr (.inl ((false, ()), (a.2.1, (r2.2.1.1, r2.2.1.2.1, ()), (), (), (), r2.2.2.1, ()))))
  else
  (bif r2.1.2.1 then
  (getI a.1.2.2.1 a.1.2.2.2.2.1).bind fun e5 =>
  (bif (decide (r2.1.1 ≠ e5.value)) then
  some (.inr (.inl ((false, ()), (a.2.1, (r2.2.1.1, r2.2.1.2.1, ()), (), (), (), r2.2.2.1, ()))))
  else
  some (.inl (((), (), a.1.2.2.1, a.1.2.2.2.1, (IntKind.i64.wrap (a.1.2.2.2.2.1 + 1)), ()), (a.2.1, (r2.2.1.1, r2.2.1.2.1, ()), (), (), r2.2.2.1, ()))))
  else
  some (.inl (((), (), a.1.2.2.1, a.1.2.2.2.1, (IntKind.i64.wrap (a.1.2.2.2.2.1 + 1)), ()), (a.2.1, (r2.2.1.1, r2.2.1.2.1, ()), (), (), r2.2.2.1, ())))))
  else
  some (.inr (.inr (((), a.1.2.2.1, a.1.2.2.2.1, ()), (a.2.1, (a.2.2.1.1, a.2.2.1.2.1, ()), (), (), (), (), (), a.2.2.2.2.2.1, ())))))
noncomputable def watershedlaw15_RowsParts_e3 : LE CT Try.prog := ⟨28, [5, 7, 9, 14, 15], [.one (.ptr 0 0), .one (.ptr 1 0), .one (.own 3 2), .one (.own 3 3), .one (.int .i64)], [.cobj 35 5, .obj 73 [.asz 3 4, .bool], .row 32 2, .row 32 2, .arr 32 3 false], [⟨.ret, [6], [.one (.bool)], [.cobj 35 5, .obj 73 [.asz 3 5, .bool], .dead, .dead, .dead, .arr 32 3 false]⟩, ⟨.exit 5, [7, 9, 14], [.one (.ptr 1 0), .one (.own 3 5), .one (.own 3 6)], [.cobj 35 5, .obj 73 [.asz 3 7, .bool], .dead, .dead, .dead, .row 32 2, .row 32 2, .arr 32 3 false]⟩], watershedlaw15_RowsParts_l3⟩
noncomputable def watershedlaw15_RowsParts_lt : List (LE CT Try.prog) := [watershedlaw15_RowsParts_e1, watershedlaw15_RowsParts_e2, watershedlaw15_RowsParts_e3]
theorem watershedlaw15_RowsParts_e1_ok : LeOk watershedlaw15_RowsParts_e1 (nthL (bodyOf Try.f5) 0) := fun A env h k z hk => le_ok (E := watershedlaw15_RowsParts_e1) (orcOf_ok watershedlaw15_RowsParts_tb) (dr := watershedlaw15_RowsParts_dr) (lps := lpsOf watershedlaw15_RowsParts_lt) (no_loop (by kernel_rfl)) (fun a => by kernel_rfl) env h k z hk
theorem watershedlaw15_RowsParts_e2_ok : LeOk watershedlaw15_RowsParts_e2 (nthL (bodyOf Try.f5) 1) := fun A env h k z hk => le_ok (E := watershedlaw15_RowsParts_e2) (orcOf_ok watershedlaw15_RowsParts_tb) (dr := watershedlaw15_RowsParts_dr) (lps := lpsOf watershedlaw15_RowsParts_lt) (no_loop (by kernel_rfl)) (fun a => by kernel_rfl) env h k z hk
theorem watershedlaw15_RowsParts_e3_ok : LeOk watershedlaw15_RowsParts_e3 (nthL (bodyOf Try.f5) 2) := fun A env h k z hk => le_ok (E := watershedlaw15_RowsParts_e3) (orcOf_ok watershedlaw15_RowsParts_tb) (dr := watershedlaw15_RowsParts_dr) (lps := lpsOf watershedlaw15_RowsParts_lt) (no_loop (by kernel_rfl)) (fun a => by kernel_rfl) env h k z hk
noncomputable def watershedlaw15_RowsParts (x0 : List (DDeed)) (x1 : List (List UInt8)) (x2 : DSpan) : Option ((Bool) × (Unit)) :=
  (watershedlaw15_awake).bind fun r1 =>
  (bif (!r1.1) then
  some (false, ())
  else
  (watershedlaw15_light x0).bind fun r2 =>
  (bif (!r2.1) then
  some (true, ())
  else
  (bif (decide ((100 : Int) < (x1.length : Int))) then
  some (true, ())
  else
  (rows_New).bind fun r3 =>
  (loopM watershedlaw15_RowsParts_l1 ((x0, x1, (), (), 0, ()), (x2, (r3.2.1.1, r3.2.1.2.1, ()), r3.2.2.1, ()))).bind fun b4 =>
  (span_All).bind fun r5 =>
  (rows_In r5.1 (b4.2.2.1.1, b4.2.2.1.2.1, ()) b4.2.2.2.2.1).bind fun r6 =>
  (span_All).bind fun r7 =>
  (span_Cut r7.1 b4.1.1).bind fun r8 =>
  (loopM watershedlaw15_RowsParts_l2 (((), (), r6.1, [], r8.1, 0, ()), (b4.2.1, (r6.2.1.1, r6.2.1.2.1, ()), (), (), (), r6.2.2.1, ()))).bind fun b9 =>
  (watershedkit_SameLines b9.1.2.2.2.1 b9.1.2.2.1).bind fun r10 =>
  (bif (!r10.1) then
  some (false, ())
  else
  (rows_Many (b9.2.2.1.1, b9.2.2.1.2.1, ()) b9.2.2.2.2.2.2.2.2.2.1).bind fun r11 =>
  (bif (decide (((b9.1.2.2.1.length : Int) : Int) ≠ r11.1)) then
  some (false, ())
  else
  (rows_In b9.2.1 (r11.2.1.1, r11.2.1.2.1, ()) r11.2.2.1).bind fun r12 =>
  (rows_Take b9.2.1 (r12.2.1.1, r12.2.1.2.1, ()) r12.2.2.1).bind fun r13 =>
  (watershedkit_SameLines r12.1 r13.1).bind fun r14 =>
  (bif (!r14.1) then
  some (false, ())
  else
  (rows_In b9.2.1 (r13.2.1.1, r13.2.1.2.1, ()) r13.2.2.2.2.1).bind fun r15 =>
  (bif (decide (((r15.1.length : Int) : Int) ≠ 0)) then
  some (false, ())
  else
  (rows_Many (r15.2.1.1, r15.2.1.2.1, ()) r15.2.2.1).bind fun r16 =>
  (bif (decide ((r16.1 : Int) ≠ (IntKind.i64.wrap ((b9.1.2.2.1.length : Int) - (r13.1.length : Int))))) then
  some (false, ())
  else
  (loopM watershedlaw15_RowsParts_l3 (((), (), b9.1.2.2.1, r13.1, 0, ()), (b9.2.1, (r16.2.1.1, r16.2.1.2.1, ()), (), (), r16.2.2.1, ()))).bind fun b17 =>
  (match b17 with
  | .inl b18 =>
  some (b18.1.1, ())
  | .inr b19 =>
  (wire_NewWriter).bind fun r20 =>
  (rows_Write b19.1.2.2.1 (r20.2.1.1, r20.2.1.2.1, r20.2.1.2.2.1, ())).bind fun r21 =>
  (wire_Done (r21.2.1.1, r21.2.1.2.1, r21.2.1.2.2.1, ())).bind fun r22 =>
  (wire_NewReader r22.1.1).bind fun r23 =>
  (rows_Read (r23.2.1.1, r23.2.1.2.1, r23.2.1.2.2.1, ())).bind fun r24 =>
  (bif (decide ((r22.1.2.1 : Int) = 0)) then
  (bif r24.1.2.1 then
  (watershedkit_SameLines r24.1.1 b19.1.2.2.1).bind fun r25 =>
  (bif r25.1 then
  (rows_Put r24.1.1 (b19.2.2.1.1, b19.2.2.1.2.1, ()) b19.2.2.2.2.2.2.2.2.1).bind fun r26 =>
  (bif (decide ((r26.1 : Int) = 0)) then
  (span_All).bind fun r27 =>
  (rows_In r27.1 (r26.2.1.1, r26.2.1.2.1, ()) r26.2.2.2.1).bind fun r28 =>
  (watershedkit_SameLines r28.1 b19.1.2.1).bind fun r29 =>
  some (r29.1, ())
  else
  some (false, ()))
  else
  some (false, ()))
  else
  some (false, ()))
  else
  some (false, ())))))))))))
noncomputable def watershedlaw15_RowsParts_ce : CE CT Try.prog where
  f := 5
  args := [.one (.sl 16), .one (.sl 2), .cod 5]
  hs := []
  res := .val (.one (.bool))
  outs := []
  m := fun d dh => watershedlaw15_RowsParts d.1 d.2.1 d.2.2.1
  ok := ce_ok mixedP Try.func5 (by kernel_rfl) (orcOf_ok watershedlaw15_RowsParts_tb) (dr := watershedlaw15_RowsParts_dr) (lps := lpsOf watershedlaw15_RowsParts_lt) (lps_fn (lps_of (n := 3) (by kernel_rfl) fun i hi => match i, hi with | 0, _ => lp_ok (E := watershedlaw15_RowsParts_e1) (by kernel_rfl) watershedlaw15_RowsParts_e1_ok | 1, _ => lp_ok (E := watershedlaw15_RowsParts_e2) (by kernel_rfl) watershedlaw15_RowsParts_e2_ok | 2, _ => lp_ok (E := watershedlaw15_RowsParts_e3) (by kernel_rfl) watershedlaw15_RowsParts_e3_ok)) (fun d dh => by kernel_rfl)
end Go.Proofs.Ytlmmpfbdgiokmaa
