/- The laws. -/
import Derived.Test.YtcamfdmgpmdmhaaGreatG1
namespace Go.Proofs.YtcamfdmgpmdmhaaGreat
open Go.RowKit
set_option maxRecDepth 100000
set_option linter.unusedVariables false
def watershedlaw20_SchemeTells_dr : Nat → DrA
  | 10 => ⟨[0, 1, 2, 3, 4, 5, 6, 7, 8, 9, 10, 11, 12, 13, 14, 15, 16, 17, 18, 19, 20, 21, 22, 23, 24, 25, 26, 29, 30, 27, 28, 31, 32, 33, 34, 35, 36, 38, 37, 39, 40, 41, 42, 43, 45, 47, 49, 44, 48, 46, 50, 51, 52], [[], [], [0, 1], [0, 1, 2], [0, 1, 2, 3], [0, 1, 2, 3], [0, 1, 2, 3, 4, 5], [0, 1, 2, 3, 4, 5, 6], [0, 1, 2, 3, 4, 5, 6, 7], [0, 1, 2, 3, 4, 5, 6, 7, 8], [0, 1, 2, 3, 4, 5, 6, 7, 8], [0, 1, 2, 3, 4, 5, 6, 7, 8, 9, 10], [0, 1, 2, 3, 4, 5, 6, 7, 8, 9, 10, 11], [0, 1, 2, 3, 4, 5, 6, 7, 8, 9, 10, 11, 12], [0, 1, 2, 3, 4, 5, 6, 7, 8, 9, 10, 11, 12, 13], [0, 1, 2, 3, 4, 5, 6, 7, 8, 9, 10, 11, 12, 13, 14], [0, 1, 2, 3, 4, 5, 6, 7, 8, 9, 10, 11, 12, 13, 14], [0, 1, 2, 3, 4, 5, 6, 7, 8, 9, 10, 11, 12, 13, 14, 15, 16], [0, 1, 2, 3, 4, 5, 6, 7, 8, 9, 10, 11, 12, 13, 14, 15, 16, 17], [0, 1, 2, 3, 4, 5, 6, 7, 8, 9, 10, 11, 12, 13, 14, 15, 16, 17, 18], [0, 1, 2, 3, 4, 5, 6, 7, 8, 9, 10, 11, 12, 13, 14, 15, 16, 17, 18, 19], [0, 1, 2, 3, 4, 5, 6, 7, 8, 9, 10, 11, 12, 13, 14, 15, 16, 17, 18, 19], [0, 1, 2, 3, 4, 5, 6, 7, 8, 9, 10, 11, 12, 13, 14, 15, 16, 17, 18, 19, 20, 21], [0, 1, 2, 3, 4, 5, 6, 7, 8, 9, 10, 11, 12, 13, 14, 15, 16, 17, 18, 19, 20, 21, 22], [0, 1, 2, 3, 4, 5, 6, 7, 8, 9, 10, 11, 12, 13, 14, 15, 16, 17, 18, 19, 20, 21, 22, 23], [0, 1, 2, 3, 4, 5, 6, 7, 8, 9, 10, 11, 12, 13, 14, 15, 16, 17, 18, 19, 20, 21, 22, 23, 24], [0, 1, 2, 3, 4, 5, 6, 7, 8, 9, 10, 11, 12, 13, 14, 15, 16, 17, 18, 19, 20, 21, 22, 23, 24], [0, 1, 2, 3, 4, 5, 6, 7, 8, 9, 10, 11, 12, 13, 14, 15, 16, 17, 18, 19, 20, 21, 22, 23, 24, 25, 26], [0, 1, 2, 3, 4, 5, 6, 7, 8, 9, 10, 11, 12, 13, 14, 15, 16, 17, 18, 19, 20, 21, 22, 23, 24, 25, 26, 27], [0, 1, 2, 3, 4, 5, 6, 7, 8, 9, 10, 11, 12, 13, 14, 15, 16, 17, 18, 19, 20, 21, 22, 23, 24], [0, 1, 2, 3, 4, 5, 6, 7, 8, 9, 10, 11, 12, 13, 14, 15, 16, 17, 18, 19, 20, 21, 22, 23, 24], [0, 1, 2, 3, 4, 5, 6, 7, 8, 9, 10, 11, 12, 13, 14, 15, 16, 17, 18, 19, 20, 21, 22, 23, 24, 29, 30], [0, 1, 2, 3, 4, 5, 6, 7, 8, 9, 10, 11, 12, 13, 14, 15, 16, 17, 18, 19, 20, 21, 22, 23, 24, 25, 26, 27, 28, 29, 30, 31], [0, 1, 2, 3, 4, 5, 6, 7, 8, 9, 10, 11, 12, 13, 14, 15, 16, 17, 18, 19, 20, 21, 22, 23, 24, 25, 26, 27, 28, 29, 30, 31, 32], [0, 1, 2, 3, 4, 5, 6, 7, 8, 9, 10, 11, 12, 13, 14, 15, 16, 17, 18, 19, 20, 21, 22, 23, 24, 25, 26, 27, 28, 29, 30, 31, 32, 33], [0, 1, 2, 3, 4, 5, 6, 7, 8, 9, 10, 11, 12, 13, 14, 15, 16, 17, 18, 19, 20, 21, 22, 23, 24, 25, 26, 27, 28, 29, 30, 31, 32, 33, 34], [0, 1, 2, 3, 4, 5, 6, 7, 8, 9, 10, 11, 12, 13, 14, 15, 16, 17, 18, 19, 20, 21, 22, 23, 24, 25, 26, 27, 28, 29, 30, 31, 32, 33, 34, 35], [0, 1, 2, 3, 4, 5, 6, 7, 8, 9, 10, 11, 12, 13, 14, 15, 16, 17, 18, 19, 20, 21, 22, 23, 24, 25, 26, 27, 28, 29, 30, 31, 32, 33, 34, 35, 36], [0, 1, 2, 3, 4, 5, 6, 7, 8, 9, 10, 11, 12, 13, 14, 15, 16, 17, 18, 19, 20, 21, 22, 23, 24, 25, 26, 27, 28, 29, 30, 31, 32, 33, 34, 35], [0, 1, 2, 3, 4, 5, 6, 7, 8, 9, 10, 11, 12, 13, 14, 15, 16, 17, 18, 19, 20, 21, 22, 23, 24, 25, 26, 27, 28, 29, 30, 31, 32, 33, 34, 35, 36, 37, 38], [0, 1, 2, 3, 4, 5, 6, 7, 8, 9, 10, 11, 12, 13, 14, 15, 16, 17, 18, 19, 20, 21, 22, 23, 24, 25, 26, 27, 28, 29, 30, 31, 32, 33, 34, 35, 36, 37, 38, 39], [0, 1, 2, 3, 4, 5, 6, 7, 8, 9, 10, 11, 12, 13, 14, 15, 16, 17, 18, 19, 20, 21, 22, 23, 24, 25, 26, 27, 28, 29, 30, 31, 32, 33, 34, 35, 36, 37, 38, 39, 40], [0, 1, 2, 3, 4, 5, 6, 7, 8, 9, 10, 11, 12, 13, 14, 15, 16, 17, 18, 19, 20, 21, 22, 23, 24, 25, 26, 27, 28, 29, 30, 31, 32, 33, 34, 35, 36, 37, 38, 39, 40, 41], [0, 1, 2, 3, 4, 5, 6, 7, 8, 9, 10, 11, 12, 13, 14, 15, 16, 17, 18, 19, 20, 21, 22, 23, 24, 25, 26, 27, 28, 29, 30, 31, 32, 33, 34, 35, 36, 37, 38, 39, 40, 41, 42], [0, 1, 2, 3, 4, 5, 6, 7, 8, 9, 10, 11, 12, 13, 14, 15, 16, 17, 18, 19, 20, 21, 22, 23, 24, 25, 26, 27, 28, 29, 30, 31, 32, 33, 34, 35, 36, 37, 38, 39, 40, 41, 42, 43], [0, 1, 2, 3, 4, 5, 6, 7, 8, 9, 10, 11, 12, 13, 14, 15, 16, 17, 18, 19, 20, 21, 22, 23, 24, 25, 26, 27, 28, 29, 30, 31, 32, 33, 34, 35, 36, 37, 38, 39, 40, 41, 42], [0, 1, 2, 3, 4, 5, 6, 7, 8, 9, 10, 11, 12, 13, 14, 15, 16, 17, 18, 19, 20, 21, 22, 23, 24, 25, 26, 27, 28, 29, 30, 31, 32, 33, 34, 35, 36, 37, 38, 39, 40, 41, 42, 43, 44, 45], [0, 1, 2, 3, 4, 5, 6, 7, 8, 9, 10, 11, 12, 13, 14, 15, 16, 17, 18, 19, 20, 21, 22, 23, 24, 25, 26, 27, 28, 29, 30, 31, 32, 33, 34, 35, 36, 37, 38, 39, 40, 41, 42], [0, 1, 2, 3, 4, 5, 6, 7, 8, 9, 10, 11, 12, 13, 14, 15, 16, 17, 18, 19, 20, 21, 22, 23, 24, 25, 26, 27, 28, 29, 30, 31, 32, 33, 34, 35, 36, 37, 38, 39, 40, 41, 42, 47], [0, 1, 2, 3, 4, 5, 6, 7, 8, 9, 10, 11, 12, 13, 14, 15, 16, 17, 18, 19, 20, 21, 22, 23, 24, 25, 26, 27, 28, 29, 30, 31, 32, 33, 34, 35, 36, 37, 38, 39, 40, 41, 42], [0, 1, 2, 3, 4, 5, 6, 7, 8, 9, 10, 11, 12, 13, 14, 15, 16, 17, 18, 19, 20, 21, 22, 23, 24, 25, 26, 27, 28, 29, 30, 31, 32, 33, 34, 35, 36, 37, 38, 39, 40, 41, 42, 43, 44, 45, 46, 47, 48, 49], [0, 1, 2, 3, 4, 5, 6, 7, 8, 9, 10, 11, 12, 13, 14, 15, 16, 17, 18, 19, 20, 21, 22, 23, 24, 25, 26, 27, 28, 29, 30, 31, 32, 33, 34, 35, 36, 37, 38, 39, 40, 41, 42, 43, 44, 45, 46, 47, 48, 49, 50], [0, 1, 2, 3, 4, 5, 6, 7, 8, 9, 10, 11, 12, 13, 14, 15, 16, 17, 18, 19, 20, 21, 22, 23, 24, 25, 26, 27, 28, 29, 30, 31, 32, 33, 34, 35, 36, 37, 38, 39, 40, 41, 42, 43, 44, 45, 46, 47, 48, 49, 50, 51]], [29, 30, 38, 48], [28, 37, 46], [0, 10], false, [31]⟩
  | _ => ⟨[], [], [], [], [], false, []⟩
noncomputable def watershedlaw20_SchemeTells_tb : List (CE CT Tryz.prog) := [watershedlaw20_awake_ce, watershedlaw20_great_ce, watershedkit_LentShares_ce, scheme_Step_ar_ce, watershedref20_Step_ce, scheme_Begin_ce, watershedref20_Begin_ce, watershedkit_SameShares_ce, scheme_Right_ce, watershedref20_Right_ce, scheme_Over_ce, watershedref20_Over_ce, scheme_Goes_ce, watershedref20_Goes_ce, watershedkit_OverShares_ce, watershedkit_KeptShares_ce]
noncomputable def watershedlaw20_SchemeTells_lt : List (LE CT Tryz.prog) := []
noncomputable def watershedlaw20_SchemeTells (x0 : DScheme) (x1 : DShares) (x2 : Int) (x3 : Int) (x4 : DSpan) (x5 : Int) : Option ((Bool) × (Unit)) :=
  (watershedlaw20_awake).bind fun r1 =>
  (bif (!r1.1) then
  some (false, ())
  else
  (watershedlaw20_great x1 ([x4, x0.span] : List (DSpan))).bind fun r2 =>
  (bif r2.1 then
  some (true, ())
  else
  (watershedkit_LentShares x1).bind fun r3 =>
  (scheme_Step_ar x0 (⟨r3.1.1, r3.1.2.1.1⟩ : DShares) x2).bind fun r4 =>
  (watershedref20_Step x0 x1 x2).bind fun r5 =>
  (scheme_Begin (⟨r3.1.1, r3.1.2.1.1⟩ : DShares) x3 x4 x5).bind fun r6 =>
  (watershedref20_Begin x1 x3 x4 x5).bind fun r7 =>
  (bif (decide ((r4.1.2.2.1 : Int) ≠ r5.1.2.2.1)) then
  some (false, ())
  else
  (bif (!(decide ((r4.1.1.num : Int) = r5.1.1.num) && (decide (r4.1.1.span.lo = r5.1.1.span.lo) && (decide (r4.1.1.span.hi = r5.1.1.span.hi) && (decide ((r4.1.1.from_ : Int) = r5.1.1.from_) && (decide ((r4.1.1.to_ : Int) = r5.1.1.to_) && (decide ((r4.1.1.epoch : Int) = r5.1.1.epoch) && (decide ((r4.1.1.under : Int) = r5.1.1.under) && (decide ((r4.1.1.stage : Int) = r5.1.1.stage) && true))))))))) then
  some (false, ())
  else
  (watershedkit_SameShares (r4.1.2.1.1, r4.1.2.1.2.1, ()) r5.1.2.1 r4.2.1).bind fun r8 =>
  (bif (!r8.1) then
  some (false, ())
  else
  (bif (decide ((r6.1.2.1 : Int) ≠ r7.1.2.1)) then
  some (false, ())
  else
  (bif (!(decide ((r6.1.1.num : Int) = r7.1.1.num) && (decide (r6.1.1.span.lo = r7.1.1.span.lo) && (decide (r6.1.1.span.hi = r7.1.1.span.hi) && (decide ((r6.1.1.from_ : Int) = r7.1.1.from_) && (decide ((r6.1.1.to_ : Int) = r7.1.1.to_) && (decide ((r6.1.1.epoch : Int) = r7.1.1.epoch) && (decide ((r6.1.1.under : Int) = r7.1.1.under) && (decide ((r6.1.1.stage : Int) = r7.1.1.stage) && true))))))))) then
  some (false, ())
  else
  (scheme_Right ([x0, r6.1.1] : List (DScheme))).bind fun r9 =>
  (watershedref20_Right (0, 2, 2) ([x0, r6.1.1] : List (DScheme))).bind fun r10 =>
  (bif (decide (r9.1 ≠ r10.1)) then
  some (false, ())
  else
  (scheme_Over x0).bind fun r11 =>
  (watershedref20_Over x0).bind fun r12 =>
  (bif (decide (r11.1 ≠ r12.1)) then
  some (false, ())
  else
  (scheme_Goes x0.stage x2).bind fun r13 =>
  (watershedref20_Goes x0.stage x2).bind fun r14 =>
  (bif (decide (r13.1 ≠ r14.1)) then
  some (false, ())
  else
  (watershedkit_OverShares (r4.1.2.1.1, r4.1.2.1.2.1, ()) r8.2.1).bind fun r15 =>
  (watershedkit_KeptShares (r3.1.1, (r3.1.2.1.1, r3.1.2.1.2), ()) x1).bind fun r16 =>
  some (r16.1, ())))))))))))
noncomputable def watershedlaw20_SchemeTells_ce : CE CT Tryz.prog where
  f := 3
  args := [.cod 9, .cod 11, .one (.int .u8), .one (.int .i64), .cod 4, .one (.int .i64)]
  hs := []
  res := .val (.one (.bool))
  outs := []
  m := fun d dh => watershedlaw20_SchemeTells d.1 d.2.1 d.2.2.1 d.2.2.2.1 d.2.2.2.2.1 d.2.2.2.2.2.1
  ok := ce_ok mixedP Tryz.func3 (by kernel_rfl) (orcOf_ok watershedlaw20_SchemeTells_tb) (dr := watershedlaw20_SchemeTells_dr) (lps := lpsOf watershedlaw20_SchemeTells_lt) (lps_fn (no_loop (by kernel_rfl))) (fun d dh => by kernel_rfl)

def watershedlaw20_SchemeBytes_dr : Nat → DrA
  | 5 => ⟨[1, 0, 2, 3, 4, 5, 6, 7, 8], [[], [], [0, 1], [0, 1, 2], [0, 1, 2, 3], [0, 1, 2, 3, 4], [0, 1, 2, 3, 4], [0, 1, 2, 3, 4, 5], [0, 1, 2, 3, 4, 5, 6, 7]], [1], [0], [0], false, []⟩
  | 13 => ⟨[0, 1, 2, 5, 6, 7, 3, 8, 9, 4, 11, 10, 12], [[], [], [0, 1], [0, 1, 2], [0, 1, 2, 3], [], [], [5, 6], [5, 6, 7], [5, 6, 7, 8], [5, 6, 7, 8, 9], [0, 1, 2, 3, 4], [0, 1, 2, 3, 4, 5, 6, 7, 8, 9, 10, 11]], [8], [4], [], false, []⟩
  | 16 => ⟨[0, 1, 2, 3, 4, 5, 6, 7, 8, 9, 10, 11, 13, 14, 15, 16, 17, 12, 18, 19, 20], [[], [], [0, 1], [0, 1, 2], [0, 1, 2, 3], [0, 1, 2, 3], [0, 1, 2, 3, 4, 5], [0, 1, 2, 3, 4, 5, 6], [0, 1, 2, 3, 4, 5, 6, 7], [0, 1, 2, 3, 4, 5, 6, 7, 8], [0, 1, 2, 3, 4, 5, 6, 7, 8, 9], [0, 1, 2, 3, 4, 5, 6, 7, 8, 9, 10], [0, 1, 2, 3, 4, 5, 6, 7, 8, 9, 10, 11], [0, 1, 2, 3, 4, 5, 6, 7, 8, 9, 10], [0, 1, 2, 3, 4, 5, 6, 7, 8, 9, 10, 13], [0, 1, 2, 3, 4, 5, 6, 7, 8, 9, 10, 13, 14], [0, 1, 2, 3, 4, 5, 6, 7, 8, 9, 10, 13, 14, 15], [0, 1, 2, 3, 4, 5, 6, 7, 8, 9, 10, 13, 14, 15, 16], [0, 1, 2, 3, 4, 5, 6, 7, 8, 9, 10, 11, 12, 13, 14, 15, 16, 17], [0, 1, 2, 3, 4, 5, 6, 7, 8, 9, 10, 11, 12, 13, 14, 15, 16, 17, 18], [0, 1, 2, 3, 4, 5, 6, 7, 8, 9, 10, 11, 12, 13, 14, 15, 16, 17, 18, 19]], [16], [12], [3], false, []⟩
  | _ => ⟨[], [], [], [], [], false, []⟩
noncomputable def watershedlaw20_SchemeBytes_tb : List (CE CT Tryz.prog) := [watershedlaw20_awake_ce, watershedlaw20_great_ce, wire_NewWriter_ce, scheme_Write_ce, wire_Done_ce, watershedref20_Bytes_ce, watershedkit_SameBytes_ce, wire_NewReader_ce, scheme_Read_ce, watershedref20_Read_ce, wire_Left_ce]
noncomputable def watershedlaw20_SchemeBytes_l1 (a : ((List (List (UInt8))) × (Int) × Unit) × ((Unit) × Unit)) : Option ((((List (List (UInt8))) × (Int) × Unit) × ((Unit) × Unit)) ⊕ ((((Bool) × Unit) × ((Unit) × Unit)) ⊕ ((Unit) × ((Unit) × Unit)))) :=
  (bif (decide ((a.1.2.1 : Int) < 2)) then
  (getI a.1.1 a.1.2.1).bind fun e1 =>
  (getI a.1.1 a.1.2.1).bind fun e2 =>
  (wire_NewReader e1).bind fun r3 =>
  (scheme_Read (r3.2.1.1, r3.2.1.2.1, r3.2.1.2.2.1, ())).bind fun r4 =>
  (watershedref20_Read (⟨e2, false⟩ : DReader2)).bind fun r5 =>
  (bif (decide (r4.1.2.1 ≠ r5.1.2.1)) then
  some (.inr (.inl ((false, ()), ((), ()))))
  else
  (bif (!(decide ((r4.1.1.num : Int) = r5.1.1.num) && (decide (r4.1.1.span.lo = r5.1.1.span.lo) && (decide (r4.1.1.span.hi = r5.1.1.span.hi) && (decide ((r4.1.1.from_ : Int) = r5.1.1.from_) && (decide ((r4.1.1.to_ : Int) = r5.1.1.to_) && (decide ((r4.1.1.epoch : Int) = r5.1.1.epoch) && (decide ((r4.1.1.under : Int) = r5.1.1.under) && (decide ((r4.1.1.stage : Int) = r5.1.1.stage) && true))))))))) then
  some (.inr (.inl ((false, ()), ((), ()))))
  else
  (bif r4.1.2.1 then
  (wire_Left r4.2.1).bind fun r6 =>
  (bif (decide ((r6.1 : Int) ≠ (r5.2.1.left.length : Int))) then
  some (.inr (.inl ((false, ()), ((), ()))))
  else
  some (.inl ((a.1.1, (IntKind.i64.wrap (a.1.2.1 + 1)), ()), ((), ()))))
  else
  some (.inl ((a.1.1, (IntKind.i64.wrap (a.1.2.1 + 1)), ()), ((), ()))))))
  else
  some (.inr (.inr ((), ((), ())))))
noncomputable def watershedlaw20_SchemeBytes_e1 : LE CT Tryz.prog := ⟨11, [9, 10], [.one (.own 17 0), .one (.int .i64)], [.row 46 1], [⟨.ret, [4], [.one (.bool)], [.dead]⟩, ⟨.exit 0, [], [], [.dead]⟩], watershedlaw20_SchemeBytes_l1⟩
noncomputable def watershedlaw20_SchemeBytes_lt : List (LE CT Tryz.prog) := [watershedlaw20_SchemeBytes_e1]
theorem watershedlaw20_SchemeBytes_e1_ok : LeOk watershedlaw20_SchemeBytes_e1 (nthL (bodyOf Tryz.f4) 0) := fun A env h k z hk => le_ok (E := watershedlaw20_SchemeBytes_e1) (orcOf_ok watershedlaw20_SchemeBytes_tb) (dr := watershedlaw20_SchemeBytes_dr) (lps := lpsOf watershedlaw20_SchemeBytes_lt) (no_loop (by kernel_rfl)) (fun a => by kernel_rfl) env h k z hk
noncomputable def watershedlaw20_SchemeBytes (x0 : DScheme) (x1 : List (UInt8)) : Option ((Bool) × (Unit)) :=
  (watershedlaw20_awake).bind fun r1 =>
  (bif (!r1.1) then
  some (false, ())
  else
  (watershedlaw20_great (⟨0, []⟩ : DShares) ([x0.span] : List (DSpan))).bind fun r2 =>
  (bif r2.1 then
  some (true, ())
  else
  (bif (decide ((20000 : Int) < (x1.length : Int))) then
  some (true, ())
  else
  (wire_NewWriter).bind fun r3 =>
  (scheme_Write x0 (r3.2.1.1, r3.2.1.2.1, r3.2.1.2.2.1, ())).bind fun r4 =>
  (wire_Done (r4.2.1.1, r4.2.1.2.1, r4.2.1.2.2.1, ())).bind fun r5 =>
  (watershedref20_Bytes x0).bind fun r6 =>
  (bif (decide ((decide ((r5.1.2.1 : Int) = 0)) ≠ r6.1.2.1)) then
  some (false, ())
  else
  (bif r6.1.2.1 then
  (watershedkit_SameBytes r5.1.1 r6.1.1).bind fun r7 =>
  (bif (!r7.1) then
  some (false, ())
  else
  (loopM watershedlaw20_SchemeBytes_l1 ((([r5.1.1, x1] : List (List (UInt8))), 0, ()), ((), ()))).bind fun b9 =>
  (match b9 with
  | .inl b10 =>
  some (b10.1.1, ())
  | .inr b11 =>
  some (true, ())))
  else
  (loopM watershedlaw20_SchemeBytes_l1 ((([r5.1.1, x1] : List (List (UInt8))), 0, ()), ((), ()))).bind fun b12 =>
  (match b12 with
  | .inl b13 =>
  some (b13.1.1, ())
  | .inr b14 =>
  some (true, ())))))))
noncomputable def watershedlaw20_SchemeBytes_ce : CE CT Tryz.prog where
  f := 4
  args := [.cod 9, .one (.sl 1)]
  hs := []
  res := .val (.one (.bool))
  outs := []
  m := fun d dh => watershedlaw20_SchemeBytes d.1 d.2.1
  ok := ce_ok mixedP Tryz.func4 (by kernel_rfl) (orcOf_ok watershedlaw20_SchemeBytes_tb) (dr := watershedlaw20_SchemeBytes_dr) (lps := lpsOf watershedlaw20_SchemeBytes_lt) (lps_fn (lps_of (n := 1) (by kernel_rfl) fun i hi => match i, hi with | 0, _ => lp_ok (E := watershedlaw20_SchemeBytes_e1) (by kernel_rfl) watershedlaw20_SchemeBytes_e1_ok)) (fun d dh => by kernel_rfl)

def watershedlaw20_SchemeAll_dr : Nat → DrA
  | _ => ⟨[], [], [], [], [], false, []⟩
noncomputable def watershedlaw20_SchemeAll_tb : List (CE CT Tryz.prog) := [watershedlaw20_awake_ce, shares_First_ce, shares_Turn_ce, watershedref20_Bytes_ce, watershedlaw20_SchemeTells_ce, watershedlaw20_SchemeBytes_ce]
noncomputable def watershedlaw20_SchemeAll_l3 (a : ((Unit) × (Int) × (Int) × (Int) × Unit) × (((Int) × (List (DShare)) × Unit) × (Unit) × Unit)) : Option ((((Unit) × (Int) × (Int) × (Int) × Unit) × (((Int) × (List (DShare)) × Unit) × (Unit) × Unit)) ⊕ ((((Bool) × Unit) × (((Int) × (List (DShare)) × Unit) × (Unit) × (Unit) × Unit)) ⊕ (((Unit) × (Int) × (Int) × Unit) × (((Int) × (List (DShare)) × Unit) × (Unit) × (Unit) × Unit)))) :=
  (bif (decide ((a.1.2.2.2.1 : Int) < 12)) then
  (bif (decide ((4 : Int) ≤ a.1.2.1)) then
  (bif (decide ((a.1.2.1 : Int) ≤ 6)) then
  (bif (decide ((a.1.2.2.2.1 : Int) = 1)) then
  (watershedref20_Bytes (⟨0, (⟨([] : List UInt8), ([99] : List UInt8)⟩ : DSpan), 1, 3, 1, 2, (IntKind.u8.wrap a.1.2.1)⟩ : DScheme)).bind fun r1 =>
  (watershedlaw20_SchemeTells (⟨0, (⟨([] : List UInt8), ([99] : List UInt8)⟩ : DSpan), 1, 3, 1, 2, (IntKind.u8.wrap a.1.2.1)⟩ : DScheme) (⟨a.2.1.1, a.2.1.2.1⟩ : DShares) (IntKind.u8.wrap a.1.2.2.1) 0 (⟨([] : List UInt8), ([99] : List UInt8)⟩ : DSpan) 3).bind fun r2 =>
  (bif (!r2.1) then
  some (.inr (.inl ((false, ()), ((a.2.1.1, a.2.1.2.1, ()), (), (), ()))))
  else
  (watershedlaw20_SchemeBytes (⟨0, (⟨([] : List UInt8), ([99] : List UInt8)⟩ : DSpan), 1, 3, 1, 2, (IntKind.u8.wrap a.1.2.1)⟩ : DScheme) r1.1.1).bind fun r3 =>
  (bif (!r3.1) then
  some (.inr (.inl ((false, ()), ((a.2.1.1, a.2.1.2.1, ()), (), (), ()))))
  else
  some (.inl (((), a.1.2.1, a.1.2.2.1, (IntKind.i64.wrap (a.1.2.2.2.1 + 1)), ()), ((a.2.1.1, a.2.1.2.1, ()), (), ())))))
  else
  (bif (decide ((a.1.2.2.2.1 : Int) = 2)) then
  (watershedref20_Bytes (⟨3, (⟨([98] : List UInt8), ([97] : List UInt8)⟩ : DSpan), 1, 3, 1, 2, (IntKind.u8.wrap a.1.2.1)⟩ : DScheme)).bind fun r4 =>
  (watershedlaw20_SchemeTells (⟨3, (⟨([98] : List UInt8), ([97] : List UInt8)⟩ : DSpan), 1, 3, 1, 2, (IntKind.u8.wrap a.1.2.1)⟩ : DScheme) (⟨a.2.1.1, a.2.1.2.1⟩ : DShares) (IntKind.u8.wrap a.1.2.2.1) 3 (⟨([98] : List UInt8), ([97] : List UInt8)⟩ : DSpan) 3).bind fun r5 =>
  (bif (!r5.1) then
  some (.inr (.inl ((false, ()), ((a.2.1.1, a.2.1.2.1, ()), (), (), ()))))
  else
  (watershedlaw20_SchemeBytes (⟨3, (⟨([98] : List UInt8), ([97] : List UInt8)⟩ : DSpan), 1, 3, 1, 2, (IntKind.u8.wrap a.1.2.1)⟩ : DScheme) r4.1.1).bind fun r6 =>
  (bif (!r6.1) then
  some (.inr (.inl ((false, ()), ((a.2.1.1, a.2.1.2.1, ()), (), (), ()))))
  else
  some (.inl (((), a.1.2.1, a.1.2.2.1, (IntKind.i64.wrap (a.1.2.2.2.1 + 1)), ()), ((a.2.1.1, a.2.1.2.1, ()), (), ())))))
  else
  (bif (decide ((a.1.2.2.2.1 : Int) = 3)) then
  (watershedref20_Bytes (⟨3, (⟨([] : List UInt8), ([99] : List UInt8)⟩ : DSpan), 2, 3, 1, 2, (IntKind.u8.wrap a.1.2.1)⟩ : DScheme)).bind fun r7 =>
  (watershedlaw20_SchemeTells (⟨3, (⟨([] : List UInt8), ([99] : List UInt8)⟩ : DSpan), 2, 3, 1, 2, (IntKind.u8.wrap a.1.2.1)⟩ : DScheme) (⟨a.2.1.1, a.2.1.2.1⟩ : DShares) (IntKind.u8.wrap a.1.2.2.1) 3 (⟨([] : List UInt8), ([99] : List UInt8)⟩ : DSpan) 3).bind fun r8 =>
  (bif (!r8.1) then
  some (.inr (.inl ((false, ()), ((a.2.1.1, a.2.1.2.1, ()), (), (), ()))))
  else
  (watershedlaw20_SchemeBytes (⟨3, (⟨([] : List UInt8), ([99] : List UInt8)⟩ : DSpan), 2, 3, 1, 2, (IntKind.u8.wrap a.1.2.1)⟩ : DScheme) r7.1.1).bind fun r9 =>
  (bif (!r9.1) then
  some (.inr (.inl ((false, ()), ((a.2.1.1, a.2.1.2.1, ()), (), (), ()))))
  else
  some (.inl (((), a.1.2.1, a.1.2.2.1, (IntKind.i64.wrap (a.1.2.2.2.1 + 1)), ()), ((a.2.1.1, a.2.1.2.1, ()), (), ())))))
  else
  (bif (decide ((a.1.2.2.2.1 : Int) = 4)) then
  (watershedref20_Bytes (⟨3, (⟨([] : List UInt8), ([99] : List UInt8)⟩ : DSpan), 1, 1, 1, 2, (IntKind.u8.wrap a.1.2.1)⟩ : DScheme)).bind fun r10 =>
  (watershedlaw20_SchemeTells (⟨3, (⟨([] : List UInt8), ([99] : List UInt8)⟩ : DSpan), 1, 1, 1, 2, (IntKind.u8.wrap a.1.2.1)⟩ : DScheme) (⟨a.2.1.1, a.2.1.2.1⟩ : DShares) (IntKind.u8.wrap a.1.2.2.1) 3 (⟨([] : List UInt8), ([99] : List UInt8)⟩ : DSpan) 1).bind fun r11 =>
  (bif (!r11.1) then
  some (.inr (.inl ((false, ()), ((a.2.1.1, a.2.1.2.1, ()), (), (), ()))))
  else
  (watershedlaw20_SchemeBytes (⟨3, (⟨([] : List UInt8), ([99] : List UInt8)⟩ : DSpan), 1, 1, 1, 2, (IntKind.u8.wrap a.1.2.1)⟩ : DScheme) r10.1.1).bind fun r12 =>
  (bif (!r12.1) then
  some (.inr (.inl ((false, ()), ((a.2.1.1, a.2.1.2.1, ()), (), (), ()))))
  else
  some (.inl (((), a.1.2.1, a.1.2.2.1, (IntKind.i64.wrap (a.1.2.2.2.1 + 1)), ()), ((a.2.1.1, a.2.1.2.1, ()), (), ())))))
  else
  (bif (decide ((a.1.2.2.2.1 : Int) = 5)) then
  (watershedref20_Bytes (⟨3, (⟨([] : List UInt8), ([99] : List UInt8)⟩ : DSpan), 1, 3, 2, 2, (IntKind.u8.wrap a.1.2.1)⟩ : DScheme)).bind fun r13 =>
  (watershedlaw20_SchemeTells (⟨3, (⟨([] : List UInt8), ([99] : List UInt8)⟩ : DSpan), 1, 3, 2, 2, (IntKind.u8.wrap a.1.2.1)⟩ : DScheme) (⟨a.2.1.1, a.2.1.2.1⟩ : DShares) (IntKind.u8.wrap a.1.2.2.1) 3 (⟨([] : List UInt8), ([99] : List UInt8)⟩ : DSpan) 3).bind fun r14 =>
  (bif (!r14.1) then
  some (.inr (.inl ((false, ()), ((a.2.1.1, a.2.1.2.1, ()), (), (), ()))))
  else
  (watershedlaw20_SchemeBytes (⟨3, (⟨([] : List UInt8), ([99] : List UInt8)⟩ : DSpan), 1, 3, 2, 2, (IntKind.u8.wrap a.1.2.1)⟩ : DScheme) r13.1.1).bind fun r15 =>
  (bif (!r15.1) then
  some (.inr (.inl ((false, ()), ((a.2.1.1, a.2.1.2.1, ()), (), (), ()))))
  else
  some (.inl (((), a.1.2.1, a.1.2.2.1, (IntKind.i64.wrap (a.1.2.2.2.1 + 1)), ()), ((a.2.1.1, a.2.1.2.1, ()), (), ())))))
  else
  (bif (decide ((a.1.2.2.2.1 : Int) = 6)) then
  (watershedref20_Bytes (⟨3, (⟨([] : List UInt8), ([99] : List UInt8)⟩ : DSpan), 1, 3, 1, (IntKind.i64.wrap (3 - 2)), (IntKind.u8.wrap a.1.2.1)⟩ : DScheme)).bind fun r16 =>
  (watershedlaw20_SchemeTells (⟨3, (⟨([] : List UInt8), ([99] : List UInt8)⟩ : DSpan), 1, 3, 1, (IntKind.i64.wrap (3 - 2)), (IntKind.u8.wrap a.1.2.1)⟩ : DScheme) (⟨a.2.1.1, a.2.1.2.1⟩ : DShares) (IntKind.u8.wrap a.1.2.2.1) 3 (⟨([] : List UInt8), ([99] : List UInt8)⟩ : DSpan) 3).bind fun r17 =>
  (bif (!r17.1) then
  some (.inr (.inl ((false, ()), ((a.2.1.1, a.2.1.2.1, ()), (), (), ()))))
  else
  (watershedlaw20_SchemeBytes (⟨3, (⟨([] : List UInt8), ([99] : List UInt8)⟩ : DSpan), 1, 3, 1, (IntKind.i64.wrap (3 - 2)), (IntKind.u8.wrap a.1.2.1)⟩ : DScheme) r16.1.1).bind fun r18 =>
  (bif (!r18.1) then
  some (.inr (.inl ((false, ()), ((a.2.1.1, a.2.1.2.1, ()), (), (), ()))))
  else
  some (.inl (((), a.1.2.1, a.1.2.2.1, (IntKind.i64.wrap (a.1.2.2.2.1 + 1)), ()), ((a.2.1.1, a.2.1.2.1, ()), (), ())))))
  else
  (bif (decide ((a.1.2.2.2.1 : Int) = 7)) then
  (watershedref20_Bytes (⟨3, (⟨([] : List UInt8), ([99] : List UInt8)⟩ : DSpan), 1, 3, 1, 1073741825, (IntKind.u8.wrap a.1.2.1)⟩ : DScheme)).bind fun r19 =>
  (watershedlaw20_SchemeTells (⟨3, (⟨([] : List UInt8), ([99] : List UInt8)⟩ : DSpan), 1, 3, 1, 1073741825, (IntKind.u8.wrap a.1.2.1)⟩ : DScheme) (⟨a.2.1.1, a.2.1.2.1⟩ : DShares) (IntKind.u8.wrap a.1.2.2.1) 3 (⟨([] : List UInt8), ([99] : List UInt8)⟩ : DSpan) 3).bind fun r20 =>
  (bif (!r20.1) then
  some (.inr (.inl ((false, ()), ((a.2.1.1, a.2.1.2.1, ()), (), (), ()))))
  else
  (watershedlaw20_SchemeBytes (⟨3, (⟨([] : List UInt8), ([99] : List UInt8)⟩ : DSpan), 1, 3, 1, 1073741825, (IntKind.u8.wrap a.1.2.1)⟩ : DScheme) r19.1.1).bind fun r21 =>
  (bif (!r21.1) then
  some (.inr (.inl ((false, ()), ((a.2.1.1, a.2.1.2.1, ()), (), (), ()))))
  else
  some (.inl (((), a.1.2.1, a.1.2.2.1, (IntKind.i64.wrap (a.1.2.2.2.1 + 1)), ()), ((a.2.1.1, a.2.1.2.1, ()), (), ())))))
  else
  (bif (decide ((a.1.2.2.2.1 : Int) = 8)) then
  (watershedref20_Bytes (⟨3, (⟨([99] : List UInt8), ([] : List UInt8)⟩ : DSpan), 1, 3, 1, 2, (IntKind.u8.wrap a.1.2.1)⟩ : DScheme)).bind fun r22 =>
  (watershedlaw20_SchemeTells (⟨3, (⟨([99] : List UInt8), ([] : List UInt8)⟩ : DSpan), 1, 3, 1, 2, (IntKind.u8.wrap a.1.2.1)⟩ : DScheme) (⟨a.2.1.1, a.2.1.2.1⟩ : DShares) (IntKind.u8.wrap a.1.2.2.1) 3 (⟨([99] : List UInt8), ([] : List UInt8)⟩ : DSpan) 3).bind fun r23 =>
  (bif (!r23.1) then
  some (.inr (.inl ((false, ()), ((a.2.1.1, a.2.1.2.1, ()), (), (), ()))))
  else
  (watershedlaw20_SchemeBytes (⟨3, (⟨([99] : List UInt8), ([] : List UInt8)⟩ : DSpan), 1, 3, 1, 2, (IntKind.u8.wrap a.1.2.1)⟩ : DScheme) r22.1.1).bind fun r24 =>
  (bif (!r24.1) then
  some (.inr (.inl ((false, ()), ((a.2.1.1, a.2.1.2.1, ()), (), (), ()))))
  else
  some (.inl (((), a.1.2.1, a.1.2.2.1, (IntKind.i64.wrap (a.1.2.2.2.1 + 1)), ()), ((a.2.1.1, a.2.1.2.1, ()), (), ())))))
  else
  (bif (decide ((a.1.2.2.2.1 : Int) = 9)) then
  (watershedref20_Bytes (⟨3, (⟨([] : List UInt8), ([99] : List UInt8)⟩ : DSpan), 1, 5, 1, 2, (IntKind.u8.wrap a.1.2.1)⟩ : DScheme)).bind fun r25 =>
  (watershedlaw20_SchemeTells (⟨3, (⟨([] : List UInt8), ([99] : List UInt8)⟩ : DSpan), 1, 5, 1, 2, (IntKind.u8.wrap a.1.2.1)⟩ : DScheme) (⟨a.2.1.1, a.2.1.2.1⟩ : DShares) (IntKind.u8.wrap a.1.2.2.1) 3 (⟨([] : List UInt8), ([99] : List UInt8)⟩ : DSpan) 5).bind fun r26 =>
  (bif (!r26.1) then
  some (.inr (.inl ((false, ()), ((a.2.1.1, a.2.1.2.1, ()), (), (), ()))))
  else
  (watershedlaw20_SchemeBytes (⟨3, (⟨([] : List UInt8), ([99] : List UInt8)⟩ : DSpan), 1, 5, 1, 2, (IntKind.u8.wrap a.1.2.1)⟩ : DScheme) r25.1.1).bind fun r27 =>
  (bif (!r27.1) then
  some (.inr (.inl ((false, ()), ((a.2.1.1, a.2.1.2.1, ()), (), (), ()))))
  else
  some (.inl (((), a.1.2.1, a.1.2.2.1, (IntKind.i64.wrap (a.1.2.2.2.1 + 1)), ()), ((a.2.1.1, a.2.1.2.1, ()), (), ())))))
  else
  (bif (decide ((a.1.2.2.2.1 : Int) = 10)) then
  (watershedref20_Bytes (⟨3, (⟨([] : List UInt8), ([99] : List UInt8)⟩ : DSpan), 1, 3, 1073741824, 2, (IntKind.u8.wrap a.1.2.1)⟩ : DScheme)).bind fun r28 =>
  (watershedlaw20_SchemeTells (⟨3, (⟨([] : List UInt8), ([99] : List UInt8)⟩ : DSpan), 1, 3, 1073741824, 2, (IntKind.u8.wrap a.1.2.1)⟩ : DScheme) (⟨a.2.1.1, a.2.1.2.1⟩ : DShares) (IntKind.u8.wrap a.1.2.2.1) 3 (⟨([] : List UInt8), ([99] : List UInt8)⟩ : DSpan) 3).bind fun r29 =>
  (bif (!r29.1) then
  some (.inr (.inl ((false, ()), ((a.2.1.1, a.2.1.2.1, ()), (), (), ()))))
  else
  (watershedlaw20_SchemeBytes (⟨3, (⟨([] : List UInt8), ([99] : List UInt8)⟩ : DSpan), 1, 3, 1073741824, 2, (IntKind.u8.wrap a.1.2.1)⟩ : DScheme) r28.1.1).bind fun r30 =>
  (bif (!r30.1) then
  some (.inr (.inl ((false, ()), ((a.2.1.1, a.2.1.2.1, ()), (), (), ()))))
  else
  some (.inl (((), a.1.2.1, a.1.2.2.1, (IntKind.i64.wrap (a.1.2.2.2.1 + 1)), ()), ((a.2.1.1, a.2.1.2.1, ()), (), ())))))
  else
  (bif (decide ((a.1.2.2.2.1 : Int) = 11)) then
  (watershedref20_Bytes (⟨1073741825, (⟨([] : List UInt8), ([99] : List UInt8)⟩ : DSpan), 1, 3, 1, 2, (IntKind.u8.wrap a.1.2.1)⟩ : DScheme)).bind fun r31 =>
  (watershedlaw20_SchemeTells (⟨1073741825, (⟨([] : List UInt8), ([99] : List UInt8)⟩ : DSpan), 1, 3, 1, 2, (IntKind.u8.wrap a.1.2.1)⟩ : DScheme) (⟨a.2.1.1, a.2.1.2.1⟩ : DShares) (IntKind.u8.wrap a.1.2.2.1) 1073741825 (⟨([] : List UInt8), ([99] : List UInt8)⟩ : DSpan) 3).bind fun r32 =>
  (bif (!r32.1) then
  some (.inr (.inl ((false, ()), ((a.2.1.1, a.2.1.2.1, ()), (), (), ()))))
  else
  (watershedlaw20_SchemeBytes (⟨1073741825, (⟨([] : List UInt8), ([99] : List UInt8)⟩ : DSpan), 1, 3, 1, 2, (IntKind.u8.wrap a.1.2.1)⟩ : DScheme) r31.1.1).bind fun r33 =>
  (bif (!r33.1) then
  some (.inr (.inl ((false, ()), ((a.2.1.1, a.2.1.2.1, ()), (), (), ()))))
  else
  some (.inl (((), a.1.2.1, a.1.2.2.1, (IntKind.i64.wrap (a.1.2.2.2.1 + 1)), ()), ((a.2.1.1, a.2.1.2.1, ()), (), ())))))
  else
  (watershedref20_Bytes (⟨3, (⟨([] : List UInt8), ([99] : List UInt8)⟩ : DSpan), 1, 3, 1, 2, (IntKind.u8.wrap a.1.2.1)⟩ : DScheme)).bind fun r34 =>
  (watershedlaw20_SchemeTells (⟨3, (⟨([] : List UInt8), ([99] : List UInt8)⟩ : DSpan), 1, 3, 1, 2, (IntKind.u8.wrap a.1.2.1)⟩ : DScheme) (⟨a.2.1.1, a.2.1.2.1⟩ : DShares) (IntKind.u8.wrap a.1.2.2.1) 3 (⟨([] : List UInt8), ([99] : List UInt8)⟩ : DSpan) 3).bind fun r35 =>
  (bif (!r35.1) then
  some (.inr (.inl ((false, ()), ((a.2.1.1, a.2.1.2.1, ()), (), (), ()))))
  else
  (watershedlaw20_SchemeBytes (⟨3, (⟨([] : List UInt8), ([99] : List UInt8)⟩ : DSpan), 1, 3, 1, 2, (IntKind.u8.wrap a.1.2.1)⟩ : DScheme) r34.1.1).bind fun r36 =>
  (bif (!r36.1) then
  some (.inr (.inl ((false, ()), ((a.2.1.1, a.2.1.2.1, ()), (), (), ()))))
  else
  some (.inl (((), a.1.2.1, a.1.2.2.1, (IntKind.i64.wrap (a.1.2.2.2.1 + 1)), ()), ((a.2.1.1, a.2.1.2.1, ()), (), ()))))))))))))))))
  else
  (bif (decide ((a.1.2.2.2.1 : Int) = 1)) then
  (watershedref20_Bytes (⟨0, (⟨([] : List UInt8), ([99] : List UInt8)⟩ : DSpan), 1, 3, 1, 0, (IntKind.u8.wrap a.1.2.1)⟩ : DScheme)).bind fun r37 =>
  (watershedlaw20_SchemeTells (⟨0, (⟨([] : List UInt8), ([99] : List UInt8)⟩ : DSpan), 1, 3, 1, 0, (IntKind.u8.wrap a.1.2.1)⟩ : DScheme) (⟨a.2.1.1, a.2.1.2.1⟩ : DShares) (IntKind.u8.wrap a.1.2.2.1) 0 (⟨([] : List UInt8), ([99] : List UInt8)⟩ : DSpan) 3).bind fun r38 =>
  (bif (!r38.1) then
  some (.inr (.inl ((false, ()), ((a.2.1.1, a.2.1.2.1, ()), (), (), ()))))
  else
  (watershedlaw20_SchemeBytes (⟨0, (⟨([] : List UInt8), ([99] : List UInt8)⟩ : DSpan), 1, 3, 1, 0, (IntKind.u8.wrap a.1.2.1)⟩ : DScheme) r37.1.1).bind fun r39 =>
  (bif (!r39.1) then
  some (.inr (.inl ((false, ()), ((a.2.1.1, a.2.1.2.1, ()), (), (), ()))))
  else
  some (.inl (((), a.1.2.1, a.1.2.2.1, (IntKind.i64.wrap (a.1.2.2.2.1 + 1)), ()), ((a.2.1.1, a.2.1.2.1, ()), (), ())))))
  else
  (bif (decide ((a.1.2.2.2.1 : Int) = 2)) then
  (watershedref20_Bytes (⟨3, (⟨([98] : List UInt8), ([97] : List UInt8)⟩ : DSpan), 1, 3, 1, 0, (IntKind.u8.wrap a.1.2.1)⟩ : DScheme)).bind fun r40 =>
  (watershedlaw20_SchemeTells (⟨3, (⟨([98] : List UInt8), ([97] : List UInt8)⟩ : DSpan), 1, 3, 1, 0, (IntKind.u8.wrap a.1.2.1)⟩ : DScheme) (⟨a.2.1.1, a.2.1.2.1⟩ : DShares) (IntKind.u8.wrap a.1.2.2.1) 3 (⟨([98] : List UInt8), ([97] : List UInt8)⟩ : DSpan) 3).bind fun r41 =>
  (bif (!r41.1) then
  some (.inr (.inl ((false, ()), ((a.2.1.1, a.2.1.2.1, ()), (), (), ()))))
  else
  (watershedlaw20_SchemeBytes (⟨3, (⟨([98] : List UInt8), ([97] : List UInt8)⟩ : DSpan), 1, 3, 1, 0, (IntKind.u8.wrap a.1.2.1)⟩ : DScheme) r40.1.1).bind fun r42 =>
  (bif (!r42.1) then
  some (.inr (.inl ((false, ()), ((a.2.1.1, a.2.1.2.1, ()), (), (), ()))))
  else
  some (.inl (((), a.1.2.1, a.1.2.2.1, (IntKind.i64.wrap (a.1.2.2.2.1 + 1)), ()), ((a.2.1.1, a.2.1.2.1, ()), (), ())))))
  else
  (bif (decide ((a.1.2.2.2.1 : Int) = 3)) then
  (watershedref20_Bytes (⟨3, (⟨([] : List UInt8), ([99] : List UInt8)⟩ : DSpan), 2, 3, 1, 0, (IntKind.u8.wrap a.1.2.1)⟩ : DScheme)).bind fun r43 =>
  (watershedlaw20_SchemeTells (⟨3, (⟨([] : List UInt8), ([99] : List UInt8)⟩ : DSpan), 2, 3, 1, 0, (IntKind.u8.wrap a.1.2.1)⟩ : DScheme) (⟨a.2.1.1, a.2.1.2.1⟩ : DShares) (IntKind.u8.wrap a.1.2.2.1) 3 (⟨([] : List UInt8), ([99] : List UInt8)⟩ : DSpan) 3).bind fun r44 =>
  (bif (!r44.1) then
  some (.inr (.inl ((false, ()), ((a.2.1.1, a.2.1.2.1, ()), (), (), ()))))
  else
  (watershedlaw20_SchemeBytes (⟨3, (⟨([] : List UInt8), ([99] : List UInt8)⟩ : DSpan), 2, 3, 1, 0, (IntKind.u8.wrap a.1.2.1)⟩ : DScheme) r43.1.1).bind fun r45 =>
  (bif (!r45.1) then
  some (.inr (.inl ((false, ()), ((a.2.1.1, a.2.1.2.1, ()), (), (), ()))))
  else
  some (.inl (((), a.1.2.1, a.1.2.2.1, (IntKind.i64.wrap (a.1.2.2.2.1 + 1)), ()), ((a.2.1.1, a.2.1.2.1, ()), (), ())))))
  else
  (bif (decide ((a.1.2.2.2.1 : Int) = 4)) then
  (watershedref20_Bytes (⟨3, (⟨([] : List UInt8), ([99] : List UInt8)⟩ : DSpan), 1, 1, 1, 0, (IntKind.u8.wrap a.1.2.1)⟩ : DScheme)).bind fun r46 =>
  (watershedlaw20_SchemeTells (⟨3, (⟨([] : List UInt8), ([99] : List UInt8)⟩ : DSpan), 1, 1, 1, 0, (IntKind.u8.wrap a.1.2.1)⟩ : DScheme) (⟨a.2.1.1, a.2.1.2.1⟩ : DShares) (IntKind.u8.wrap a.1.2.2.1) 3 (⟨([] : List UInt8), ([99] : List UInt8)⟩ : DSpan) 1).bind fun r47 =>
  (bif (!r47.1) then
  some (.inr (.inl ((false, ()), ((a.2.1.1, a.2.1.2.1, ()), (), (), ()))))
  else
  (watershedlaw20_SchemeBytes (⟨3, (⟨([] : List UInt8), ([99] : List UInt8)⟩ : DSpan), 1, 1, 1, 0, (IntKind.u8.wrap a.1.2.1)⟩ : DScheme) r46.1.1).bind fun r48 =>
  (bif (!r48.1) then
  some (.inr (.inl ((false, ()), ((a.2.1.1, a.2.1.2.1, ()), (), (), ()))))
  else
  some (.inl (((), a.1.2.1, a.1.2.2.1, (IntKind.i64.wrap (a.1.2.2.2.1 + 1)), ()), ((a.2.1.1, a.2.1.2.1, ()), (), ())))))
  else
  (bif (decide ((a.1.2.2.2.1 : Int) = 5)) then
  (watershedref20_Bytes (⟨3, (⟨([] : List UInt8), ([99] : List UInt8)⟩ : DSpan), 1, 3, 2, 0, (IntKind.u8.wrap a.1.2.1)⟩ : DScheme)).bind fun r49 =>
  (watershedlaw20_SchemeTells (⟨3, (⟨([] : List UInt8), ([99] : List UInt8)⟩ : DSpan), 1, 3, 2, 0, (IntKind.u8.wrap a.1.2.1)⟩ : DScheme) (⟨a.2.1.1, a.2.1.2.1⟩ : DShares) (IntKind.u8.wrap a.1.2.2.1) 3 (⟨([] : List UInt8), ([99] : List UInt8)⟩ : DSpan) 3).bind fun r50 =>
  (bif (!r50.1) then
  some (.inr (.inl ((false, ()), ((a.2.1.1, a.2.1.2.1, ()), (), (), ()))))
  else
  (watershedlaw20_SchemeBytes (⟨3, (⟨([] : List UInt8), ([99] : List UInt8)⟩ : DSpan), 1, 3, 2, 0, (IntKind.u8.wrap a.1.2.1)⟩ : DScheme) r49.1.1).bind fun r51 =>
  (bif (!r51.1) then
  some (.inr (.inl ((false, ()), ((a.2.1.1, a.2.1.2.1, ()), (), (), ()))))
  else
  some (.inl (((), a.1.2.1, a.1.2.2.1, (IntKind.i64.wrap (a.1.2.2.2.1 + 1)), ()), ((a.2.1.1, a.2.1.2.1, ()), (), ())))))
  else
  (bif (decide ((a.1.2.2.2.1 : Int) = 6)) then
  (watershedref20_Bytes (⟨3, (⟨([] : List UInt8), ([99] : List UInt8)⟩ : DSpan), 1, 3, 1, (IntKind.i64.wrap (3 - 0)), (IntKind.u8.wrap a.1.2.1)⟩ : DScheme)).bind fun r52 =>
  (watershedlaw20_SchemeTells (⟨3, (⟨([] : List UInt8), ([99] : List UInt8)⟩ : DSpan), 1, 3, 1, (IntKind.i64.wrap (3 - 0)), (IntKind.u8.wrap a.1.2.1)⟩ : DScheme) (⟨a.2.1.1, a.2.1.2.1⟩ : DShares) (IntKind.u8.wrap a.1.2.2.1) 3 (⟨([] : List UInt8), ([99] : List UInt8)⟩ : DSpan) 3).bind fun r53 =>
  (bif (!r53.1) then
  some (.inr (.inl ((false, ()), ((a.2.1.1, a.2.1.2.1, ()), (), (), ()))))
  else
  (watershedlaw20_SchemeBytes (⟨3, (⟨([] : List UInt8), ([99] : List UInt8)⟩ : DSpan), 1, 3, 1, (IntKind.i64.wrap (3 - 0)), (IntKind.u8.wrap a.1.2.1)⟩ : DScheme) r52.1.1).bind fun r54 =>
  (bif (!r54.1) then
  some (.inr (.inl ((false, ()), ((a.2.1.1, a.2.1.2.1, ()), (), (), ()))))
  else
  some (.inl (((), a.1.2.1, a.1.2.2.1, (IntKind.i64.wrap (a.1.2.2.2.1 + 1)), ()), ((a.2.1.1, a.2.1.2.1, ()), (), ())))))
  else
  (bif (decide ((a.1.2.2.2.1 : Int) = 7)) then
  (watershedref20_Bytes (⟨3, (⟨([] : List UInt8), ([99] : List UInt8)⟩ : DSpan), 1, 3, 1, 1073741825, (IntKind.u8.wrap a.1.2.1)⟩ : DScheme)).bind fun r55 =>
  (watershedlaw20_SchemeTells (⟨3, (⟨([] : List UInt8), ([99] : List UInt8)⟩ : DSpan), 1, 3, 1, 1073741825, (IntKind.u8.wrap a.1.2.1)⟩ : DScheme) (⟨a.2.1.1, a.2.1.2.1⟩ : DShares) (IntKind.u8.wrap a.1.2.2.1) 3 (⟨([] : List UInt8), ([99] : List UInt8)⟩ : DSpan) 3).bind fun r56 =>
  (bif (!r56.1) then
  some (.inr (.inl ((false, ()), ((a.2.1.1, a.2.1.2.1, ()), (), (), ()))))
  else
  (watershedlaw20_SchemeBytes (⟨3, (⟨([] : List UInt8), ([99] : List UInt8)⟩ : DSpan), 1, 3, 1, 1073741825, (IntKind.u8.wrap a.1.2.1)⟩ : DScheme) r55.1.1).bind fun r57 =>
  (bif (!r57.1) then
  some (.inr (.inl ((false, ()), ((a.2.1.1, a.2.1.2.1, ()), (), (), ()))))
  else
  some (.inl (((), a.1.2.1, a.1.2.2.1, (IntKind.i64.wrap (a.1.2.2.2.1 + 1)), ()), ((a.2.1.1, a.2.1.2.1, ()), (), ())))))
  else
  (bif (decide ((a.1.2.2.2.1 : Int) = 8)) then
  (watershedref20_Bytes (⟨3, (⟨([99] : List UInt8), ([] : List UInt8)⟩ : DSpan), 1, 3, 1, 0, (IntKind.u8.wrap a.1.2.1)⟩ : DScheme)).bind fun r58 =>
  (watershedlaw20_SchemeTells (⟨3, (⟨([99] : List UInt8), ([] : List UInt8)⟩ : DSpan), 1, 3, 1, 0, (IntKind.u8.wrap a.1.2.1)⟩ : DScheme) (⟨a.2.1.1, a.2.1.2.1⟩ : DShares) (IntKind.u8.wrap a.1.2.2.1) 3 (⟨([99] : List UInt8), ([] : List UInt8)⟩ : DSpan) 3).bind fun r59 =>
  (bif (!r59.1) then
  some (.inr (.inl ((false, ()), ((a.2.1.1, a.2.1.2.1, ()), (), (), ()))))
  else
  (watershedlaw20_SchemeBytes (⟨3, (⟨([99] : List UInt8), ([] : List UInt8)⟩ : DSpan), 1, 3, 1, 0, (IntKind.u8.wrap a.1.2.1)⟩ : DScheme) r58.1.1).bind fun r60 =>
  (bif (!r60.1) then
  some (.inr (.inl ((false, ()), ((a.2.1.1, a.2.1.2.1, ()), (), (), ()))))
  else
  some (.inl (((), a.1.2.1, a.1.2.2.1, (IntKind.i64.wrap (a.1.2.2.2.1 + 1)), ()), ((a.2.1.1, a.2.1.2.1, ()), (), ())))))
  else
  (bif (decide ((a.1.2.2.2.1 : Int) = 9)) then
  (watershedref20_Bytes (⟨3, (⟨([] : List UInt8), ([99] : List UInt8)⟩ : DSpan), 1, 5, 1, 0, (IntKind.u8.wrap a.1.2.1)⟩ : DScheme)).bind fun r61 =>
  (watershedlaw20_SchemeTells (⟨3, (⟨([] : List UInt8), ([99] : List UInt8)⟩ : DSpan), 1, 5, 1, 0, (IntKind.u8.wrap a.1.2.1)⟩ : DScheme) (⟨a.2.1.1, a.2.1.2.1⟩ : DShares) (IntKind.u8.wrap a.1.2.2.1) 3 (⟨([] : List UInt8), ([99] : List UInt8)⟩ : DSpan) 5).bind fun r62 =>
  (bif (!r62.1) then
  some (.inr (.inl ((false, ()), ((a.2.1.1, a.2.1.2.1, ()), (), (), ()))))
  else
  (watershedlaw20_SchemeBytes (⟨3, (⟨([] : List UInt8), ([99] : List UInt8)⟩ : DSpan), 1, 5, 1, 0, (IntKind.u8.wrap a.1.2.1)⟩ : DScheme) r61.1.1).bind fun r63 =>
  (bif (!r63.1) then
  some (.inr (.inl ((false, ()), ((a.2.1.1, a.2.1.2.1, ()), (), (), ()))))
  else
  some (.inl (((), a.1.2.1, a.1.2.2.1, (IntKind.i64.wrap (a.1.2.2.2.1 + 1)), ()), ((a.2.1.1, a.2.1.2.1, ()), (), ())))))
  else
  (bif (decide ((a.1.2.2.2.1 : Int) = 10)) then
  (watershedref20_Bytes (⟨3, (⟨([] : List UInt8), ([99] : List UInt8)⟩ : DSpan), 1, 3, 1073741824, 0, (IntKind.u8.wrap a.1.2.1)⟩ : DScheme)).bind fun r64 =>
  (watershedlaw20_SchemeTells (⟨3, (⟨([] : List UInt8), ([99] : List UInt8)⟩ : DSpan), 1, 3, 1073741824, 0, (IntKind.u8.wrap a.1.2.1)⟩ : DScheme) (⟨a.2.1.1, a.2.1.2.1⟩ : DShares) (IntKind.u8.wrap a.1.2.2.1) 3 (⟨([] : List UInt8), ([99] : List UInt8)⟩ : DSpan) 3).bind fun r65 =>
  (bif (!r65.1) then
  some (.inr (.inl ((false, ()), ((a.2.1.1, a.2.1.2.1, ()), (), (), ()))))
  else
  (watershedlaw20_SchemeBytes (⟨3, (⟨([] : List UInt8), ([99] : List UInt8)⟩ : DSpan), 1, 3, 1073741824, 0, (IntKind.u8.wrap a.1.2.1)⟩ : DScheme) r64.1.1).bind fun r66 =>
  (bif (!r66.1) then
  some (.inr (.inl ((false, ()), ((a.2.1.1, a.2.1.2.1, ()), (), (), ()))))
  else
  some (.inl (((), a.1.2.1, a.1.2.2.1, (IntKind.i64.wrap (a.1.2.2.2.1 + 1)), ()), ((a.2.1.1, a.2.1.2.1, ()), (), ())))))
  else
  (bif (decide ((a.1.2.2.2.1 : Int) = 11)) then
  (watershedref20_Bytes (⟨1073741825, (⟨([] : List UInt8), ([99] : List UInt8)⟩ : DSpan), 1, 3, 1, 0, (IntKind.u8.wrap a.1.2.1)⟩ : DScheme)).bind fun r67 =>
  (watershedlaw20_SchemeTells (⟨1073741825, (⟨([] : List UInt8), ([99] : List UInt8)⟩ : DSpan), 1, 3, 1, 0, (IntKind.u8.wrap a.1.2.1)⟩ : DScheme) (⟨a.2.1.1, a.2.1.2.1⟩ : DShares) (IntKind.u8.wrap a.1.2.2.1) 1073741825 (⟨([] : List UInt8), ([99] : List UInt8)⟩ : DSpan) 3).bind fun r68 =>
  (bif (!r68.1) then
  some (.inr (.inl ((false, ()), ((a.2.1.1, a.2.1.2.1, ()), (), (), ()))))
  else
  (watershedlaw20_SchemeBytes (⟨1073741825, (⟨([] : List UInt8), ([99] : List UInt8)⟩ : DSpan), 1, 3, 1, 0, (IntKind.u8.wrap a.1.2.1)⟩ : DScheme) r67.1.1).bind fun r69 =>
  (bif (!r69.1) then
  some (.inr (.inl ((false, ()), ((a.2.1.1, a.2.1.2.1, ()), (), (), ()))))
  else
  some (.inl (((), a.1.2.1, a.1.2.2.1, (IntKind.i64.wrap (a.1.2.2.2.1 + 1)), ()), ((a.2.1.1, a.2.1.2.1, ()), (), ())))))
  else
  (watershedref20_Bytes (⟨3, (⟨([] : List UInt8), ([99] : List UInt8)⟩ : DSpan), 1, 3, 1, 0, (IntKind.u8.wrap a.1.2.1)⟩ : DScheme)).bind fun r70 =>
  (watershedlaw20_SchemeTells (⟨3, (⟨([] : List UInt8), ([99] : List UInt8)⟩ : DSpan), 1, 3, 1, 0, (IntKind.u8.wrap a.1.2.1)⟩ : DScheme) (⟨a.2.1.1, a.2.1.2.1⟩ : DShares) (IntKind.u8.wrap a.1.2.2.1) 3 (⟨([] : List UInt8), ([99] : List UInt8)⟩ : DSpan) 3).bind fun r71 =>
  (bif (!r71.1) then
  some (.inr (.inl ((false, ()), ((a.2.1.1, a.2.1.2.1, ()), (), (), ()))))
  else
  (watershedlaw20_SchemeBytes (⟨3, (⟨([] : List UInt8), ([99] : List UInt8)⟩ : DSpan), 1, 3, 1, 0, (IntKind.u8.wrap a.1.2.1)⟩ : DScheme) r70.1.1).bind fun r72 =>
  (bif (!r72.1) then
  some (.inr (.inl ((false, ()), ((a.2.1.1, a.2.1.2.1, ()), (), (), ()))))
  else
  some (.inl (((), a.1.2.1, a.1.2.2.1, (IntKind.i64.wrap (a.1.2.2.2.1 + 1)), ()), ((a.2.1.1, a.2.1.2.1, ()), (), ())))))))))))))))))
  else
  (bif (decide ((a.1.2.2.2.1 : Int) = 1)) then
  (watershedref20_Bytes (⟨0, (⟨([] : List UInt8), ([99] : List UInt8)⟩ : DSpan), 1, 3, 1, 0, (IntKind.u8.wrap a.1.2.1)⟩ : DScheme)).bind fun r73 =>
  (watershedlaw20_SchemeTells (⟨0, (⟨([] : List UInt8), ([99] : List UInt8)⟩ : DSpan), 1, 3, 1, 0, (IntKind.u8.wrap a.1.2.1)⟩ : DScheme) (⟨a.2.1.1, a.2.1.2.1⟩ : DShares) (IntKind.u8.wrap a.1.2.2.1) 0 (⟨([] : List UInt8), ([99] : List UInt8)⟩ : DSpan) 3).bind fun r74 =>
  (bif (!r74.1) then
  some (.inr (.inl ((false, ()), ((a.2.1.1, a.2.1.2.1, ()), (), (), ()))))
  else
  (watershedlaw20_SchemeBytes (⟨0, (⟨([] : List UInt8), ([99] : List UInt8)⟩ : DSpan), 1, 3, 1, 0, (IntKind.u8.wrap a.1.2.1)⟩ : DScheme) r73.1.1).bind fun r75 =>
  (bif (!r75.1) then
  some (.inr (.inl ((false, ()), ((a.2.1.1, a.2.1.2.1, ()), (), (), ()))))
  else
  some (.inl (((), a.1.2.1, a.1.2.2.1, (IntKind.i64.wrap (a.1.2.2.2.1 + 1)), ()), ((a.2.1.1, a.2.1.2.1, ()), (), ())))))
  else
  (bif (decide ((a.1.2.2.2.1 : Int) = 2)) then
  (watershedref20_Bytes (⟨3, (⟨([98] : List UInt8), ([97] : List UInt8)⟩ : DSpan), 1, 3, 1, 0, (IntKind.u8.wrap a.1.2.1)⟩ : DScheme)).bind fun r76 =>
  (watershedlaw20_SchemeTells (⟨3, (⟨([98] : List UInt8), ([97] : List UInt8)⟩ : DSpan), 1, 3, 1, 0, (IntKind.u8.wrap a.1.2.1)⟩ : DScheme) (⟨a.2.1.1, a.2.1.2.1⟩ : DShares) (IntKind.u8.wrap a.1.2.2.1) 3 (⟨([98] : List UInt8), ([97] : List UInt8)⟩ : DSpan) 3).bind fun r77 =>
  (bif (!r77.1) then
  some (.inr (.inl ((false, ()), ((a.2.1.1, a.2.1.2.1, ()), (), (), ()))))
  else
  (watershedlaw20_SchemeBytes (⟨3, (⟨([98] : List UInt8), ([97] : List UInt8)⟩ : DSpan), 1, 3, 1, 0, (IntKind.u8.wrap a.1.2.1)⟩ : DScheme) r76.1.1).bind fun r78 =>
  (bif (!r78.1) then
  some (.inr (.inl ((false, ()), ((a.2.1.1, a.2.1.2.1, ()), (), (), ()))))
  else
  some (.inl (((), a.1.2.1, a.1.2.2.1, (IntKind.i64.wrap (a.1.2.2.2.1 + 1)), ()), ((a.2.1.1, a.2.1.2.1, ()), (), ())))))
  else
  (bif (decide ((a.1.2.2.2.1 : Int) = 3)) then
  (watershedref20_Bytes (⟨3, (⟨([] : List UInt8), ([99] : List UInt8)⟩ : DSpan), 2, 3, 1, 0, (IntKind.u8.wrap a.1.2.1)⟩ : DScheme)).bind fun r79 =>
  (watershedlaw20_SchemeTells (⟨3, (⟨([] : List UInt8), ([99] : List UInt8)⟩ : DSpan), 2, 3, 1, 0, (IntKind.u8.wrap a.1.2.1)⟩ : DScheme) (⟨a.2.1.1, a.2.1.2.1⟩ : DShares) (IntKind.u8.wrap a.1.2.2.1) 3 (⟨([] : List UInt8), ([99] : List UInt8)⟩ : DSpan) 3).bind fun r80 =>
  (bif (!r80.1) then
  some (.inr (.inl ((false, ()), ((a.2.1.1, a.2.1.2.1, ()), (), (), ()))))
  else
  (watershedlaw20_SchemeBytes (⟨3, (⟨([] : List UInt8), ([99] : List UInt8)⟩ : DSpan), 2, 3, 1, 0, (IntKind.u8.wrap a.1.2.1)⟩ : DScheme) r79.1.1).bind fun r81 =>
  (bif (!r81.1) then
  some (.inr (.inl ((false, ()), ((a.2.1.1, a.2.1.2.1, ()), (), (), ()))))
  else
  some (.inl (((), a.1.2.1, a.1.2.2.1, (IntKind.i64.wrap (a.1.2.2.2.1 + 1)), ()), ((a.2.1.1, a.2.1.2.1, ()), (), ())))))
  else
  (bif (decide ((a.1.2.2.2.1 : Int) = 4)) then
  (watershedref20_Bytes (⟨3, (⟨([] : List UInt8), ([99] : List UInt8)⟩ : DSpan), 1, 1, 1, 0, (IntKind.u8.wrap a.1.2.1)⟩ : DScheme)).bind fun r82 =>
  (watershedlaw20_SchemeTells (⟨3, (⟨([] : List UInt8), ([99] : List UInt8)⟩ : DSpan), 1, 1, 1, 0, (IntKind.u8.wrap a.1.2.1)⟩ : DScheme) (⟨a.2.1.1, a.2.1.2.1⟩ : DShares) (IntKind.u8.wrap a.1.2.2.1) 3 (⟨([] : List UInt8), ([99] : List UInt8)⟩ : DSpan) 1).bind fun r83 =>
  (bif (!r83.1) then
  some (.inr (.inl ((false, ()), ((a.2.1.1, a.2.1.2.1, ()), (), (), ()))))
  else
  (watershedlaw20_SchemeBytes (⟨3, (⟨([] : List UInt8), ([99] : List UInt8)⟩ : DSpan), 1, 1, 1, 0, (IntKind.u8.wrap a.1.2.1)⟩ : DScheme) r82.1.1).bind fun r84 =>
  (bif (!r84.1) then
  some (.inr (.inl ((false, ()), ((a.2.1.1, a.2.1.2.1, ()), (), (), ()))))
  else
  some (.inl (((), a.1.2.1, a.1.2.2.1, (IntKind.i64.wrap (a.1.2.2.2.1 + 1)), ()), ((a.2.1.1, a.2.1.2.1, ()), (), ())))))
  else
  (bif (decide ((a.1.2.2.2.1 : Int) = 5)) then
  (watershedref20_Bytes (⟨3, (⟨([] : List UInt8), ([99] : List UInt8)⟩ : DSpan), 1, 3, 2, 0, (IntKind.u8.wrap a.1.2.1)⟩ : DScheme)).bind fun r85 =>
  (watershedlaw20_SchemeTells (⟨3, (⟨([] : List UInt8), ([99] : List UInt8)⟩ : DSpan), 1, 3, 2, 0, (IntKind.u8.wrap a.1.2.1)⟩ : DScheme) (⟨a.2.1.1, a.2.1.2.1⟩ : DShares) (IntKind.u8.wrap a.1.2.2.1) 3 (⟨([] : List UInt8), ([99] : List UInt8)⟩ : DSpan) 3).bind fun r86 =>
  (bif (!r86.1) then
  some (.inr (.inl ((false, ()), ((a.2.1.1, a.2.1.2.1, ()), (), (), ()))))
  else
  (watershedlaw20_SchemeBytes (⟨3, (⟨([] : List UInt8), ([99] : List UInt8)⟩ : DSpan), 1, 3, 2, 0, (IntKind.u8.wrap a.1.2.1)⟩ : DScheme) r85.1.1).bind fun r87 =>
  (bif (!r87.1) then
  some (.inr (.inl ((false, ()), ((a.2.1.1, a.2.1.2.1, ()), (), (), ()))))
  else
  some (.inl (((), a.1.2.1, a.1.2.2.1, (IntKind.i64.wrap (a.1.2.2.2.1 + 1)), ()), ((a.2.1.1, a.2.1.2.1, ()), (), ())))))
  else
  (bif (decide ((a.1.2.2.2.1 : Int) = 6)) then
  (watershedref20_Bytes (⟨3, (⟨([] : List UInt8), ([99] : List UInt8)⟩ : DSpan), 1, 3, 1, (IntKind.i64.wrap (3 - 0)), (IntKind.u8.wrap a.1.2.1)⟩ : DScheme)).bind fun r88 =>
  (watershedlaw20_SchemeTells (⟨3, (⟨([] : List UInt8), ([99] : List UInt8)⟩ : DSpan), 1, 3, 1, (IntKind.i64.wrap (3 - 0)), (IntKind.u8.wrap a.1.2.1)⟩ : DScheme) (⟨a.2.1.1, a.2.1.2.1⟩ : DShares) (IntKind.u8.wrap a.1.2.2.1) 3 (⟨([] : List UInt8), ([99] : List UInt8)⟩ : DSpan) 3).bind fun r89 =>
  (bif (!r89.1) then
  some (.inr (.inl ((false, ()), ((a.2.1.1, a.2.1.2.1, ()), (), (), ()))))
  else
  (watershedlaw20_SchemeBytes (⟨3, (⟨([] : List UInt8), ([99] : List UInt8)⟩ : DSpan), 1, 3, 1, (IntKind.i64.wrap (3 - 0)), (IntKind.u8.wrap a.1.2.1)⟩ : DScheme) r88.1.1).bind fun r90 =>
  (bif (!r90.1) then
  some (.inr (.inl ((false, ()), ((a.2.1.1, a.2.1.2.1, ()), (), (), ()))))
  else
  some (.inl (((), a.1.2.1, a.1.2.2.1, (IntKind.i64.wrap (a.1.2.2.2.1 + 1)), ()), ((a.2.1.1, a.2.1.2.1, ()), (), ())))))
  else
  (bif (decide ((a.1.2.2.2.1 : Int) = 7)) then
  (watershedref20_Bytes (⟨3, (⟨([] : List UInt8), ([99] : List UInt8)⟩ : DSpan), 1, 3, 1, 1073741825, (IntKind.u8.wrap a.1.2.1)⟩ : DScheme)).bind fun r91 =>
  (watershedlaw20_SchemeTells (⟨3, (⟨([] : List UInt8), ([99] : List UInt8)⟩ : DSpan), 1, 3, 1, 1073741825, (IntKind.u8.wrap a.1.2.1)⟩ : DScheme) (⟨a.2.1.1, a.2.1.2.1⟩ : DShares) (IntKind.u8.wrap a.1.2.2.1) 3 (⟨([] : List UInt8), ([99] : List UInt8)⟩ : DSpan) 3).bind fun r92 =>
  (bif (!r92.1) then
  some (.inr (.inl ((false, ()), ((a.2.1.1, a.2.1.2.1, ()), (), (), ()))))
  else
  (watershedlaw20_SchemeBytes (⟨3, (⟨([] : List UInt8), ([99] : List UInt8)⟩ : DSpan), 1, 3, 1, 1073741825, (IntKind.u8.wrap a.1.2.1)⟩ : DScheme) r91.1.1).bind fun r93 =>
  (bif (!r93.1) then
  some (.inr (.inl ((false, ()), ((a.2.1.1, a.2.1.2.1, ()), (), (), ()))))
  else
  some (.inl (((), a.1.2.1, a.1.2.2.1, (IntKind.i64.wrap (a.1.2.2.2.1 + 1)), ()), ((a.2.1.1, a.2.1.2.1, ()), (), ())))))
  else
  (bif (decide ((a.1.2.2.2.1 : Int) = 8)) then
  (watershedref20_Bytes (⟨3, (⟨([99] : List UInt8), ([] : List UInt8)⟩ : DSpan), 1, 3, 1, 0, (IntKind.u8.wrap a.1.2.1)⟩ : DScheme)).bind fun r94 =>
  (watershedlaw20_SchemeTells (⟨3, (⟨([99] : List UInt8), ([] : List UInt8)⟩ : DSpan), 1, 3, 1, 0, (IntKind.u8.wrap a.1.2.1)⟩ : DScheme) (⟨a.2.1.1, a.2.1.2.1⟩ : DShares) (IntKind.u8.wrap a.1.2.2.1) 3 (⟨([99] : List UInt8), ([] : List UInt8)⟩ : DSpan) 3).bind fun r95 =>
  (bif (!r95.1) then
  some (.inr (.inl ((false, ()), ((a.2.1.1, a.2.1.2.1, ()), (), (), ()))))
  else
  (watershedlaw20_SchemeBytes (⟨3, (⟨([99] : List UInt8), ([] : List UInt8)⟩ : DSpan), 1, 3, 1, 0, (IntKind.u8.wrap a.1.2.1)⟩ : DScheme) r94.1.1).bind fun r96 =>
  (bif (!r96.1) then
  some (.inr (.inl ((false, ()), ((a.2.1.1, a.2.1.2.1, ()), (), (), ()))))
  else
  some (.inl (((), a.1.2.1, a.1.2.2.1, (IntKind.i64.wrap (a.1.2.2.2.1 + 1)), ()), ((a.2.1.1, a.2.1.2.1, ()), (), ())))))
  else
  (bif (decide ((a.1.2.2.2.1 : Int) = 9)) then
  (watershedref20_Bytes (⟨3, (⟨([] : List UInt8), ([99] : List UInt8)⟩ : DSpan), 1, 5, 1, 0, (IntKind.u8.wrap a.1.2.1)⟩ : DScheme)).bind fun r97 =>
  (watershedlaw20_SchemeTells (⟨3, (⟨([] : List UInt8), ([99] : List UInt8)⟩ : DSpan), 1, 5, 1, 0, (IntKind.u8.wrap a.1.2.1)⟩ : DScheme) (⟨a.2.1.1, a.2.1.2.1⟩ : DShares) (IntKind.u8.wrap a.1.2.2.1) 3 (⟨([] : List UInt8), ([99] : List UInt8)⟩ : DSpan) 5).bind fun r98 =>
  (bif (!r98.1) then
  some (.inr (.inl ((false, ()), ((a.2.1.1, a.2.1.2.1, ()), (), (), ()))))
  else
  (watershedlaw20_SchemeBytes (⟨3, (⟨([] : List UInt8), ([99] : List UInt8)⟩ : DSpan), 1, 5, 1, 0, (IntKind.u8.wrap a.1.2.1)⟩ : DScheme) r97.1.1).bind fun r99 =>
  (bif (!r99.1) then
  some (.inr (.inl ((false, ()), ((a.2.1.1, a.2.1.2.1, ()), (), (), ()))))
  else
  some (.inl (((), a.1.2.1, a.1.2.2.1, (IntKind.i64.wrap (a.1.2.2.2.1 + 1)), ()), ((a.2.1.1, a.2.1.2.1, ()), (), ())))))
  else
  (bif (decide ((a.1.2.2.2.1 : Int) = 10)) then
  (watershedref20_Bytes (⟨3, (⟨([] : List UInt8), ([99] : List UInt8)⟩ : DSpan), 1, 3, 1073741824, 0, (IntKind.u8.wrap a.1.2.1)⟩ : DScheme)).bind fun r100 =>
  (watershedlaw20_SchemeTells (⟨3, (⟨([] : List UInt8), ([99] : List UInt8)⟩ : DSpan), 1, 3, 1073741824, 0, (IntKind.u8.wrap a.1.2.1)⟩ : DScheme) (⟨a.2.1.1, a.2.1.2.1⟩ : DShares) (IntKind.u8.wrap a.1.2.2.1) 3 (⟨([] : List UInt8), ([99] : List UInt8)⟩ : DSpan) 3).bind fun r101 =>
  (bif (!r101.1) then
  some (.inr (.inl ((false, ()), ((a.2.1.1, a.2.1.2.1, ()), (), (), ()))))
  else
  (watershedlaw20_SchemeBytes (⟨3, (⟨([] : List UInt8), ([99] : List UInt8)⟩ : DSpan), 1, 3, 1073741824, 0, (IntKind.u8.wrap a.1.2.1)⟩ : DScheme) r100.1.1).bind fun r102 =>
  (bif (!r102.1) then
  some (.inr (.inl ((false, ()), ((a.2.1.1, a.2.1.2.1, ()), (), (), ()))))
  else
  some (.inl (((), a.1.2.1, a.1.2.2.1, (IntKind.i64.wrap (a.1.2.2.2.1 + 1)), ()), ((a.2.1.1, a.2.1.2.1, ()), (), ())))))
  else
  (bif (decide ((a.1.2.2.2.1 : Int) = 11)) then
  (watershedref20_Bytes (⟨1073741825, (⟨([] : List UInt8), ([99] : List UInt8)⟩ : DSpan), 1, 3, 1, 0, (IntKind.u8.wrap a.1.2.1)⟩ : DScheme)).bind fun r103 =>
  (watershedlaw20_SchemeTells (⟨1073741825, (⟨([] : List UInt8), ([99] : List UInt8)⟩ : DSpan), 1, 3, 1, 0, (IntKind.u8.wrap a.1.2.1)⟩ : DScheme) (⟨a.2.1.1, a.2.1.2.1⟩ : DShares) (IntKind.u8.wrap a.1.2.2.1) 1073741825 (⟨([] : List UInt8), ([99] : List UInt8)⟩ : DSpan) 3).bind fun r104 =>
  (bif (!r104.1) then
  some (.inr (.inl ((false, ()), ((a.2.1.1, a.2.1.2.1, ()), (), (), ()))))
  else
  (watershedlaw20_SchemeBytes (⟨1073741825, (⟨([] : List UInt8), ([99] : List UInt8)⟩ : DSpan), 1, 3, 1, 0, (IntKind.u8.wrap a.1.2.1)⟩ : DScheme) r103.1.1).bind fun r105 =>
  (bif (!r105.1) then
  some (.inr (.inl ((false, ()), ((a.2.1.1, a.2.1.2.1, ()), (), (), ()))))
  else
  some (.inl (((), a.1.2.1, a.1.2.2.1, (IntKind.i64.wrap (a.1.2.2.2.1 + 1)), ()), ((a.2.1.1, a.2.1.2.1, ()), (), ())))))
  else
  (watershedref20_Bytes (⟨3, (⟨([] : List UInt8), ([99] : List UInt8)⟩ : DSpan), 1, 3, 1, 0, (IntKind.u8.wrap a.1.2.1)⟩ : DScheme)).bind fun r106 =>
  (watershedlaw20_SchemeTells (⟨3, (⟨([] : List UInt8), ([99] : List UInt8)⟩ : DSpan), 1, 3, 1, 0, (IntKind.u8.wrap a.1.2.1)⟩ : DScheme) (⟨a.2.1.1, a.2.1.2.1⟩ : DShares) (IntKind.u8.wrap a.1.2.2.1) 3 (⟨([] : List UInt8), ([99] : List UInt8)⟩ : DSpan) 3).bind fun r107 =>
  (bif (!r107.1) then
  some (.inr (.inl ((false, ()), ((a.2.1.1, a.2.1.2.1, ()), (), (), ()))))
  else
  (watershedlaw20_SchemeBytes (⟨3, (⟨([] : List UInt8), ([99] : List UInt8)⟩ : DSpan), 1, 3, 1, 0, (IntKind.u8.wrap a.1.2.1)⟩ : DScheme) r106.1.1).bind fun r108 =>
  (bif (!r108.1) then
  some (.inr (.inl ((false, ()), ((a.2.1.1, a.2.1.2.1, ()), (), (), ()))))
  else
  some (.inl (((), a.1.2.1, a.1.2.2.1, (IntKind.i64.wrap (a.1.2.2.2.1 + 1)), ()), ((a.2.1.1, a.2.1.2.1, ()), (), ())))))))))))))))))
  else
  some (.inr (.inr (((), a.1.2.1, a.1.2.2.1, ()), ((a.2.1.1, a.2.1.2.1, ()), (), (), ())))))
noncomputable def watershedlaw20_SchemeAll_e3 : LE CT Tryz.prog := ⟨11, [1, 3, 4, 5], [.one (.ptr 0 0), .one (.int .i64), .one (.int .i64), .one (.int .i64)], [.obj 29 [.int .i64, .own 5 1], .row 71 4], [⟨.ret, [0], [.one (.bool)], [.obj 29 [.int .i64, .own 5 2], .dead, .row 71 4]⟩, ⟨.exit 4, [1, 3, 4], [.one (.ptr 0 0), .one (.int .i64), .one (.int .i64)], [.obj 29 [.int .i64, .own 5 2], .dead, .row 71 4]⟩], watershedlaw20_SchemeAll_l3⟩
noncomputable def watershedlaw20_SchemeAll_l2 (a : ((Unit) × (Int) × (Int) × Unit) × (((Int) × (List (DShare)) × Unit) × (Unit) × Unit)) : Option ((((Unit) × (Int) × (Int) × Unit) × (((Int) × (List (DShare)) × Unit) × (Unit) × Unit)) ⊕ ((((Bool) × Unit) × (((Int) × (List (DShare)) × Unit) × (Unit) × (Unit) × Unit)) ⊕ (((Unit) × (Int) × Unit) × (((Int) × (List (DShare)) × Unit) × (Unit) × (Unit) × Unit)))) :=
  (bif (decide ((a.1.2.2.1 : Int) < 11)) then
  (loopM watershedlaw20_SchemeAll_l3 (((), a.1.2.1, a.1.2.2.1, 0, ()), ((a.2.1.1, a.2.1.2.1, ()), (), ()))).bind fun b1 =>
  (match b1 with
  | .inl b2 =>
  some (.inr (.inl ((b2.1.1, ()), ((b2.2.1.1, b2.2.1.2.1, ()), (), (), ()))))
  | .inr b3 =>
  some (.inl (((), b3.1.2.1, (IntKind.i64.wrap (b3.1.2.2.1 + 1)), ()), ((b3.2.1.1, b3.2.1.2.1, ()), (), ()))))
  else
  some (.inr (.inr (((), a.1.2.1, ()), ((a.2.1.1, a.2.1.2.1, ()), (), (), ())))))
noncomputable def watershedlaw20_SchemeAll_e2 : LE CT Tryz.prog := ⟨8, [1, 3, 4], [.one (.ptr 0 0), .one (.int .i64), .one (.int .i64)], [.obj 29 [.int .i64, .own 5 1], .row 71 4], [⟨.ret, [0], [.one (.bool)], [.obj 29 [.int .i64, .own 5 2], .dead, .row 71 4]⟩, ⟨.exit 2, [1, 3], [.one (.ptr 0 0), .one (.int .i64)], [.obj 29 [.int .i64, .own 5 2], .dead, .row 71 4]⟩], watershedlaw20_SchemeAll_l2⟩
noncomputable def watershedlaw20_SchemeAll_l1 (a : ((Unit) × (Int) × Unit) × (((Int) × (List (DShare)) × Unit) × (Unit) × Unit)) : Option ((((Unit) × (Int) × Unit) × (((Int) × (List (DShare)) × Unit) × (Unit) × Unit)) ⊕ ((((Bool) × Unit) × (((Int) × (List (DShare)) × Unit) × (Unit) × (Unit) × Unit)) ⊕ ((Unit) × (((Int) × (List (DShare)) × Unit) × (Unit) × (Unit) × Unit)))) :=
  (bif (decide ((a.1.2.1 : Int) < 11)) then
  (loopM watershedlaw20_SchemeAll_l2 (((), a.1.2.1, 0, ()), ((a.2.1.1, a.2.1.2.1, ()), (), ()))).bind fun b1 =>
  (match b1 with
  | .inl b2 =>
  some (.inr (.inl ((b2.1.1, ()), ((b2.2.1.1, b2.2.1.2.1, ()), (), (), ()))))
  | .inr b3 =>
  some (.inl (((), (IntKind.i64.wrap (b3.1.2.1 + 1)), ()), ((b3.2.1.1, b3.2.1.2.1, ()), (), ()))))
  else
  some (.inr (.inr ((), ((a.2.1.1, a.2.1.2.1, ()), (), (), ())))))
noncomputable def watershedlaw20_SchemeAll_e1 : LE CT Tryz.prog := ⟨5, [1, 3], [.one (.ptr 0 0), .one (.int .i64)], [.obj 29 [.int .i64, .own 5 1], .row 71 4], [⟨.ret, [0], [.one (.bool)], [.obj 29 [.int .i64, .own 5 2], .dead, .row 71 4]⟩, ⟨.exit 0, [], [], [.obj 29 [.int .i64, .own 5 2], .dead, .row 71 4]⟩], watershedlaw20_SchemeAll_l1⟩
noncomputable def watershedlaw20_SchemeAll_lt : List (LE CT Tryz.prog) := [watershedlaw20_SchemeAll_e3, watershedlaw20_SchemeAll_e2, watershedlaw20_SchemeAll_e1]
theorem watershedlaw20_SchemeAll_e3_ok : LeOk watershedlaw20_SchemeAll_e3 (nthL (nthL (nthL (bodyOf Tryz.f5) 0) 0) 0) := fun A env h k z hk => le_ok (E := watershedlaw20_SchemeAll_e3) (orcOf_ok watershedlaw20_SchemeAll_tb) (dr := watershedlaw20_SchemeAll_dr) (lps := lpsOf watershedlaw20_SchemeAll_lt) (no_loop (by kernel_rfl)) (fun a => by kernel_rfl) env h k z hk
theorem watershedlaw20_SchemeAll_e2_ok : LeOk watershedlaw20_SchemeAll_e2 (nthL (nthL (bodyOf Tryz.f5) 0) 0) := fun A env h k z hk => le_ok (E := watershedlaw20_SchemeAll_e2) (orcOf_ok watershedlaw20_SchemeAll_tb) (dr := watershedlaw20_SchemeAll_dr) (lps := lpsOf watershedlaw20_SchemeAll_lt) (lps_of (n := 1) (by kernel_rfl) fun i hi => match i, hi with | 0, _ => lp_ok (E := watershedlaw20_SchemeAll_e3) (by kernel_rfl) watershedlaw20_SchemeAll_e3_ok) (fun a => by kernel_rfl) env h k z hk
theorem watershedlaw20_SchemeAll_e1_ok : LeOk watershedlaw20_SchemeAll_e1 (nthL (bodyOf Tryz.f5) 0) := fun A env h k z hk => le_ok (E := watershedlaw20_SchemeAll_e1) (orcOf_ok watershedlaw20_SchemeAll_tb) (dr := watershedlaw20_SchemeAll_dr) (lps := lpsOf watershedlaw20_SchemeAll_lt) (lps_of (n := 1) (by kernel_rfl) fun i hi => match i, hi with | 0, _ => lp_ok (E := watershedlaw20_SchemeAll_e2) (by kernel_rfl) watershedlaw20_SchemeAll_e2_ok) (fun a => by kernel_rfl) env h k z hk
noncomputable def watershedlaw20_SchemeAll  : Option ((Bool) × (Unit)) :=
  (watershedlaw20_awake).bind fun r1 =>
  (bif (!r1.1) then
  some (false, ())
  else
  (shares_First 1).bind fun r2 =>
  (shares_Turn r2.1 (⟨([109] : List UInt8), ([] : List UInt8)⟩ : DSpan) 2).bind fun r3 =>
  (loopM watershedlaw20_SchemeAll_l1 (((), 0, ()), ((r3.1.1.1, r3.1.1.2.1, ()), (), ()))).bind fun b4 =>
  (match b4 with
  | .inl b5 =>
  some (b5.1.1, ())
  | .inr b6 =>
  some (true, ())))
noncomputable def watershedlaw20_SchemeAll_ce : CE CT Tryz.prog where
  f := 5
  args := []
  hs := []
  res := .val (.one (.bool))
  outs := []
  m := fun d dh => watershedlaw20_SchemeAll
  ok := ce_ok mixedP Tryz.func5 (by kernel_rfl) (orcOf_ok watershedlaw20_SchemeAll_tb) (dr := watershedlaw20_SchemeAll_dr) (lps := lpsOf watershedlaw20_SchemeAll_lt) (lps_fn (lps_of (n := 1) (by kernel_rfl) fun i hi => match i, hi with | 0, _ => lp_ok (E := watershedlaw20_SchemeAll_e1) (by kernel_rfl) watershedlaw20_SchemeAll_e1_ok)) (fun d dh => by kernel_rfl)
end Go.Proofs.YtcamfdmgpmdmhaaGreat
