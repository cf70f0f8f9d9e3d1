/- The laws. -/
import Derived.Test.YtlmmpfbdgiokmaaG1
namespace Go.Proofs.Ytlmmpfbdgiokmaa
open Go.RowKit
set_option maxRecDepth 100000
set_option linter.unusedVariables false
def watershedlaw15_RowsLast_dr : Nat → DrA
  | 13 => ⟨[0, 1, 2, 3, 4, 6, 7, 8, 9, 5, 10, 11], [[], [], [], [1, 2], [1, 2, 3], [1, 2, 3, 4], [], [], [6, 7], [6, 7, 8], [6, 7, 8, 9], [0, 1, 2, 3, 4, 5, 6, 7, 8, 9, 10]], [], [], [], false, []⟩
  | 18 => ⟨[0, 1, 2, 3, 4, 5, 6, 7, 9, 10, 11, 12, 8, 13, 14, 15, 16, 17, 18, 19, 20, 21, 24, 25, 26, 27, 22, 28, 23, 29, 30], [[], [0], [0, 1], [0, 1, 2], [0, 1, 2], [0, 1, 2, 4], [0, 1, 2, 3, 4, 5], [0, 1, 2, 3, 4, 5, 6], [0, 1, 2, 3, 4, 5, 6, 7], [0, 1, 2], [0, 1, 2], [0, 1, 2, 9, 10], [0, 1, 2, 9, 10, 11], [0, 1, 2, 9, 10, 11, 12], [0, 1, 2, 3, 4, 5, 6, 7, 8, 9, 10, 11, 12, 13], [0, 1, 2, 3, 4, 5, 6, 7, 8, 9, 10, 11, 12, 13, 14], [0, 1, 2, 3, 4, 5, 6, 7, 8, 9, 10, 11, 12, 13, 14, 15], [0, 1, 2, 3, 4, 5, 6, 7, 8, 9, 10, 11, 12, 13, 14, 15, 16], [0, 1, 2, 3, 4, 5, 6, 7, 8, 9, 10, 11, 12, 13, 14, 15, 16], [0, 1, 2, 3, 4, 5, 6, 7, 8, 9, 10, 11, 12, 13, 14, 15, 16], [0, 1, 2, 3, 4, 5, 6, 7, 8, 9, 10, 11, 12, 13, 14, 15, 16, 18, 19], [0, 1, 2, 3, 4, 5, 6, 7, 8, 9, 10, 11, 12, 13, 14, 15, 16, 18, 19, 20], [0, 1, 2, 3, 4, 5, 6, 7, 8, 9, 10, 11, 12, 13, 14, 15, 16, 18, 19, 20, 21], [0, 1, 2, 3, 4, 5, 6, 7, 8, 9, 10, 11, 12, 13, 14, 15, 16, 17, 18, 19, 20, 21, 22], [0, 1, 2, 3, 4, 5, 6, 7, 8, 9, 10, 11, 12, 13, 14, 15, 16], [0, 1, 2, 3, 4, 5, 6, 7, 8, 9, 10, 11, 12, 13, 14, 15, 16], [0, 1, 2, 3, 4, 5, 6, 7, 8, 9, 10, 11, 12, 13, 14, 15, 16, 24, 25], [0, 1, 2, 3, 4, 5, 6, 7, 8, 9, 10, 11, 12, 13, 14, 15, 16, 24, 25, 26], [0, 1, 2, 3, 4, 5, 6, 7, 8, 9, 10, 11, 12, 13, 14, 15, 16, 24, 25, 26, 27], [0, 1, 2, 3, 4, 5, 6, 7, 8, 9, 10, 11, 12, 13, 14, 15, 16, 17, 18, 19, 20, 21, 22, 23, 24, 25, 26, 27, 28], [0, 1, 2, 3, 4, 5, 6, 7, 8, 9, 10, 11, 12, 13, 14, 15, 16, 17, 18, 19, 20, 21, 22, 23, 24, 25, 26, 27, 28, 29]], [28], [23], [], false, []⟩
  | _ => ⟨[], [], [], [], [], false, []⟩
noncomputable def watershedlaw15_RowsLast_tb : List (CE CT Try.prog) := [watershedlaw15_awake_ce, watershedkit_LinesOf_ce, rows_New_ce, rows_Put_ce, rows_Many_ce, span_All_ce, rows_In_ce, watershedkit_SameLines_ce]
noncomputable def watershedlaw15_RowsLast_l1 (a : ((List (DRow)) × (Unit) × (Unit) × (Int) × Unit) × (((Nat) × (Bool) × Unit) × (List ((List UInt8) × (List UInt8))) × (List (DRow)) × Unit)) : Option ((((List (DRow)) × (Unit) × (Unit) × (Int) × Unit) × (((Nat) × (Bool) × Unit) × (List ((List UInt8) × (List UInt8))) × (List (DRow)) × Unit)) ⊕ ((((List (DRow)) × (Unit) × (Unit) × Unit) × (((Nat) × (Bool) × Unit) × (List ((List UInt8) × (List UInt8))) × (Unit) × (List (DRow)) × Unit)))) :=
  (bif (decide ((a.1.2.2.2.1 : Int) < (a.1.1.length : Int))) then
  (getI a.1.1 a.1.2.2.2.1).bind fun e1 =>
  (getI a.1.1 a.1.2.2.2.1).bind fun e2 =>
  some (.inl ((a.1.1, (), (), (IntKind.i64.wrap (a.1.2.2.2.1 + 1)), ()), ((a.2.1.1, a.2.1.2.1, ()), (mput (.str) a.2.2.1 e1.key e2.value), a.2.2.2.1, ())))
  else
  some (.inr ((a.1.1, (), (), ()), ((a.2.1.1, a.2.1.2.1, ()), a.2.2.1, (), a.2.2.2.1, ()))))
noncomputable def watershedlaw15_RowsLast_e1 : LE CT Try.prog := ⟨11, [0, 3, 5, 6], [.one (.sl 3), .one (.ptr 0 0), .one (.mo 1), .one (.int .i64)], [.obj 73 [.asz 3 2, .bool], .mmap (.str) (.str), .arr 32 3 false], [⟨.exit 0, [0, 3, 5], [.one (.sl 3), .one (.ptr 0 0), .one (.mo 1)], [.obj 73 [.asz 3 3, .bool], .mmap (.str) (.str), .dead, .arr 32 3 false]⟩], watershedlaw15_RowsLast_l1⟩
noncomputable def watershedlaw15_RowsLast_l2 (a : ((List (DRow)) × (Unit) × (Unit) × (List (DRow)) × (Int) × Unit) × (((Nat) × (Bool) × Unit) × (List ((List UInt8) × (List UInt8))) × (Unit) × (List (DRow)) × Unit)) : Option ((((List (DRow)) × (Unit) × (Unit) × (List (DRow)) × (Int) × Unit) × (((Nat) × (Bool) × Unit) × (List ((List UInt8) × (List UInt8))) × (Unit) × (List (DRow)) × Unit)) ⊕ ((((Bool) × Unit) × (((Nat) × (Bool) × Unit) × (List ((List UInt8) × (List UInt8))) × (Unit) × (Unit) × (List (DRow)) × Unit)) ⊕ (((List (DRow)) × (Unit) × (Unit) × (List (DRow)) × Unit) × (((Nat) × (Bool) × Unit) × (List ((List UInt8) × (List UInt8))) × (Unit) × (Unit) × (Unit) × (List (DRow)) × Unit)))) :=
  (bif (decide ((a.1.2.2.2.2.1 : Int) < (a.1.2.2.2.1.length : Int))) then
  (bif (decide ((0 : Int) < a.1.2.2.2.2.1)) then
  (getI a.1.2.2.2.1 (IntKind.i64.wrap (a.1.2.2.2.2.1 - 1))).bind fun e1 =>
  (getI a.1.2.2.2.1 a.1.2.2.2.2.1).bind fun e2 =>
  (bif (!decide (e1.key < e2.key)) then
  some (.inr (.inl ((false, ()), ((a.2.1.1, a.2.1.2.1, ()), a.2.2.1, (), (), a.2.2.2.2.1, ()))))
  else
  (getI a.1.2.2.2.1 a.1.2.2.2.2.1).bind fun e3 =>
  (getI a.1.2.2.2.1 a.1.2.2.2.2.1).bind fun e4 =>
  (bif (decide (((mget (.str) a.2.2.1 e3.key).getD []) ≠ e4.value)) then
  some (.inr (.inl ((false, ()), ((a.2.1.1, a.2.1.2.1, ()), a.2.2.1, (), (), a.2.2.2.2.1, ()))))
  else
  some (.inl ((a.1.1, (), (), a.1.2.2.2.1, (IntKind.i64.wrap (a.1.2.2.2.2.1 + 1)), ()), ((a.2.1.1, a.2.1.2.1, ()), a.2.2.1, (), a.2.2.2.2.1, ())))))
  else
  (getI a.1.2.2.2.1 a.1.2.2.2.2.1).bind fun e5 =>
  (getI a.1.2.2.2.1 a.1.2.2.2.2.1).bind fun e6 =>
  (bif (decide (((mget (.str) a.2.2.1 e5.key).getD []) ≠ e6.value)) then
  some (.inr (.inl ((false, ()), ((a.2.1.1, a.2.1.2.1, ()), a.2.2.1, (), (), a.2.2.2.2.1, ()))))
  else
  some (.inl ((a.1.1, (), (), a.1.2.2.2.1, (IntKind.i64.wrap (a.1.2.2.2.2.1 + 1)), ()), ((a.2.1.1, a.2.1.2.1, ()), a.2.2.1, (), a.2.2.2.2.1, ())))))
  else
  some (.inr (.inr ((a.1.1, (), (), a.1.2.2.2.1, ()), ((a.2.1.1, a.2.1.2.1, ()), a.2.2.1, (), (), (), a.2.2.2.2.1, ())))))
noncomputable def watershedlaw15_RowsLast_e2 : LE CT Try.prog := ⟨16, [0, 3, 5, 7, 8], [.one (.sl 3), .one (.ptr 0 0), .one (.mo 1), .one (.own 3 2), .one (.int .i64)], [.obj 73 [.asz 3 3, .bool], .mmap (.str) (.str), .row 32 2, .arr 32 3 false], [⟨.ret, [2], [.one (.bool)], [.obj 73 [.asz 3 4, .bool], .mmap (.str) (.str), .dead, .dead, .arr 32 3 false]⟩, ⟨.exit 2, [0, 3, 5, 7], [.one (.sl 3), .one (.ptr 0 0), .one (.mo 1), .one (.own 3 4)], [.obj 73 [.asz 3 5, .bool], .mmap (.str) (.str), .dead, .dead, .row 32 2, .arr 32 3 false]⟩], watershedlaw15_RowsLast_l2⟩
noncomputable def watershedlaw15_RowsLast_lt : List (LE CT Try.prog) := [watershedlaw15_RowsLast_e1, watershedlaw15_RowsLast_e2]
theorem watershedlaw15_RowsLast_e1_ok : LeOk watershedlaw15_RowsLast_e1 (nthL (bodyOf Try.f3) 0) := fun A env h k z hk => le_ok (E := watershedlaw15_RowsLast_e1) (orcOf_ok watershedlaw15_RowsLast_tb) (dr := watershedlaw15_RowsLast_dr) (lps := lpsOf watershedlaw15_RowsLast_lt) (no_loop (by kernel_rfl)) (fun a => by kernel_rfl) env h k z hk
theorem watershedlaw15_RowsLast_e2_ok : LeOk watershedlaw15_RowsLast_e2 (nthL (bodyOf Try.f3) 1) := fun A env h k z hk => le_ok (E := watershedlaw15_RowsLast_e2) (orcOf_ok watershedlaw15_RowsLast_tb) (dr := watershedlaw15_RowsLast_dr) (lps := lpsOf watershedlaw15_RowsLast_lt) (no_loop (by kernel_rfl)) (fun a => by kernel_rfl) env h k z hk
noncomputable def watershedlaw15_RowsLast (x0 : List (DRow)) : Option ((Bool) × (Unit)) :=
  (watershedlaw15_awake).bind fun r1 =>
  (bif (!r1.1) then
  some (false, ())
  else
  (watershedkit_LinesOf x0 1200).bind fun r2 =>
  (bif (decide ((1200 : Int) < r2.1)) then
  some (true, ())
  else
  (rows_New).bind fun r3 =>
  (rows_Put x0 (r3.2.1.1, r3.2.1.2.1, ()) r3.2.2.1).bind fun r4 =>
  (bif (decide ((r4.1 : Int) ≠ 0)) then
  (rows_Many (r4.2.1.1, r4.2.1.2.1, ()) r4.2.2.2.1).bind fun r5 =>
  some ((decide ((r5.1 : Int) = 0)), ())
  else
  (loopM watershedlaw15_RowsLast_l1 ((x0, (), (), 0, ()), ((r4.2.1.1, r4.2.1.2.1, ()), ([] : List ((List UInt8) × (List UInt8))), r4.2.2.2.1, ()))).bind fun b6 =>
  (span_All).bind fun r7 =>
  (rows_In r7.1 (b6.2.1.1, b6.2.1.2.1, ()) b6.2.2.2.2.1).bind fun r8 =>
  (loopM watershedlaw15_RowsLast_l2 ((b6.1.1, (), (), r8.1, 0, ()), ((r8.2.1.1, r8.2.1.2.1, ()), b6.2.2.1, (), r8.2.2.1, ()))).bind fun b9 =>
  (match b9 with
  | .inl b10 =>
  some (b10.1.1, ())
  | .inr b11 =>
  (bif (decide (((b11.1.2.2.2.1.length : Int) : Int) = (b11.2.2.1.length : Int))) then
  (rows_Put b11.1.1 (b11.2.1.1, b11.2.1.2.1, ()) b11.2.2.2.2.2.2.1).bind fun r12 =>
  (bif (decide ((r12.1 : Int) = 0)) then
  (span_All).bind fun r13 =>
  (rows_In r13.1 (r12.2.1.1, r12.2.1.2.1, ()) r12.2.2.2.1).bind fun r14 =>
  (watershedkit_SameLines r14.1 b11.1.2.2.2.1).bind fun r15 =>
  some (r15.1, ())
  else
  some (false, ()))
  else
  some (false, ()))))))
noncomputable def watershedlaw15_RowsLast_ce : CE CT Try.prog where
  f := 3
  args := [.one (.sl 3)]
  hs := []
  res := .val (.one (.bool))
  outs := []
  m := fun d dh => watershedlaw15_RowsLast d.1
  ok := ce_ok mixedP Try.func3 (by kernel_rfl) (orcOf_ok watershedlaw15_RowsLast_tb) (dr := watershedlaw15_RowsLast_dr) (lps := lpsOf watershedlaw15_RowsLast_lt) (lps_fn (lps_of (n := 2) (by kernel_rfl) fun i hi => match i, hi with | 0, _ => lp_ok (E := watershedlaw15_RowsLast_e1) (by kernel_rfl) watershedlaw15_RowsLast_e1_ok | 1, _ => lp_ok (E := watershedlaw15_RowsLast_e2) (by kernel_rfl) watershedlaw15_RowsLast_e2_ok)) (fun d dh => by kernel_rfl)
end Go.Proofs.Ytlmmpfbdgiokmaa
