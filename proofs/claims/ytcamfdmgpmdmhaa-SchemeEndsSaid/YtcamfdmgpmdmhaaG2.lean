/- The laws. -/
import Derived.Test.YtcamfdmgpmdmhaaG1
namespace Go.Proofs.Ytcamfdmgpmdmhaa
open Go.RowKit
set_option maxRecDepth 100000
set_option linter.unusedVariables false
def watershedlaw20_SchemeGoes_dr : Nat → DrA
  | 13 => ⟨[2, 3, 4, 0, 1, 5, 6, 7, 8, 9, 10, 11, 12, 13, 14, 15], [[], [], [], [], [2, 3], [2, 3, 4], [0, 1, 2, 3, 4, 5], [0, 1, 2, 3, 4, 5, 6], [0, 1, 2, 3, 4, 5, 6, 7], [0, 1, 2, 3, 4, 5, 6, 7], [0, 1, 2, 3, 4, 5, 6, 7], [], [], [0, 1, 2, 3, 4, 5, 6, 7, 8, 11, 12], [0, 1, 2, 3, 4, 5, 6, 7, 8, 9, 11, 12, 13], [0, 1, 2, 3, 4, 5, 6, 7, 8, 9, 10, 11, 12, 13, 14]], [], [], [], false⟩
  | 15 => ⟨[0, 1, 2, 4, 3, 5, 6, 7, 8, 10, 11, 12, 9, 13, 14, 15, 16, 18, 17, 19, 20], [[], [], [0, 1], [0, 1, 2], [], [4], [0, 1, 2, 3, 4, 5], [0, 1, 2, 3, 4, 5, 6], [0, 1, 2, 3, 4, 5, 6, 7], [0, 1, 2, 3, 4, 5, 6, 7, 8], [0, 1, 2, 3, 4, 5, 6, 7], [0, 1, 2, 3, 4, 5, 6, 7], [0, 1, 2, 3, 4, 5, 6, 7, 10, 11], [0, 1, 2, 3, 4, 5, 6, 7, 10, 11, 12], [0, 1, 2, 3, 4, 5, 6, 7, 8, 9, 10, 11, 12, 13], [0, 1, 2, 3, 4, 5, 6, 7, 8, 9, 10, 11, 12, 13, 14], [0, 1, 2, 3, 4, 5, 6, 7, 8, 9, 10, 11, 12, 13, 14, 15], [0, 1, 2, 3, 4, 5, 6, 7, 8, 9, 10, 11, 12, 13, 14, 15, 16], [0, 1, 2, 3, 4, 5, 6, 7, 8, 9, 10, 11, 12, 13, 14, 15, 16], [0, 1, 2, 3, 4, 5, 6, 7, 8, 9, 10, 11, 12, 13, 14, 15, 16, 17, 18], [0, 1, 2, 3, 4, 5, 6, 7, 8, 9, 10, 11, 12, 13, 14, 15, 16, 17, 18, 19]], [], [], [], false⟩
  | _ => ⟨[], [], [], [], [], false⟩
noncomputable def watershedlaw20_SchemeGoes_tb : List (CE CT Try.prog) := [watershedlaw20_awake_ce, watershedlaw20_great_ce, scheme_Begin_ce, scheme_Step_ce, scheme_Goes_ce, scheme_Over_ce, scheme_Right_ce, shares_Of_ce, span_Has_ce, watershedkit_SameShares_ce, shares_Right_ce]
noncomputable def watershedlaw20_SchemeGoes_l1 (a : ((List (UInt8)) × (List UInt8) × (Unit) × (Unit) × (Unit) × (Int) × (Int) × (Int) × Unit) × ((DSpan) × (DScheme) × (DShares) × Unit)) : Option ((((List (UInt8)) × (List UInt8) × (Unit) × (Unit) × (Unit) × (Int) × (Int) × (Int) × Unit) × ((DSpan) × (DScheme) × (DShares) × Unit)) ⊕ ((((Bool) × Unit) × ((DSpan) × (DScheme) × (DShares) × Unit)) ⊕ (((Unit) × (Unit) × (Int) × (Int) × Unit) × ((DSpan) × (DScheme) × (DShares) × Unit)))) :=
  (bif (decide ((a.1.2.2.2.2.2.2.2.1 : Int) < (a.1.1.length : Int))) then
  (getI a.1.1 a.1.2.2.2.2.2.2.2.1).bind fun e1 =>
  (scheme_Step a.2.2.1 a.2.2.2.1 (e1.toNat : Int)).bind fun r2 =>
  (bif (decide ((r2.1.2.2.1 : Int) ≠ 0)) then
  (getI a.1.1 a.1.2.2.2.2.2.2.2.1).bind fun e3 =>
  (bif (decide (((e3.toNat : Int) : Int) = a.2.2.1.stage)) then
  some (.inr (.inl ((false, ()), (a.2.1, a.2.2.1, a.2.2.2.1, ()))))
  else
  (getI a.1.1 a.1.2.2.2.2.2.2.2.1).bind fun e4 =>
  (scheme_Goes a.2.2.1.stage (e4.toNat : Int)).bind fun r5 =>
  (bif r5.1 then
  some (.inr (.inl ((false, ()), (a.2.1, a.2.2.1, a.2.2.2.1, ()))))
  else
  (bif (!(decide ((r2.1.1.num : Int) = 0) && (decide (r2.1.1.span.lo = ([] : List UInt8)) && (decide (r2.1.1.span.hi = ([] : List UInt8)) && (decide ((r2.1.1.from_ : Int) = 0) && (decide ((r2.1.1.to_ : Int) = 0) && (decide ((r2.1.1.epoch : Int) = 0) && (decide ((r2.1.1.under : Int) = 0) && (decide ((r2.1.1.stage : Int) = 0) && true))))))))) then
  some (.inr (.inl ((false, ()), (a.2.1, a.2.2.1, a.2.2.2.1, ()))))
  else
  some (.inl ((a.1.1, a.1.2.1, (), (), (), a.1.2.2.2.2.2.1, a.1.2.2.2.2.2.2.1, (IntKind.i64.wrap (a.1.2.2.2.2.2.2.2.1 + 1)), ()), (a.2.1, a.2.2.1, a.2.2.2.1, ()))))))
  else
  (scheme_Over a.2.2.1).bind fun r6 =>
  (bif r6.1 then
  (bif (!(decide ((r2.1.1.num : Int) = a.2.2.1.num) && (decide (r2.1.1.span.lo = a.2.2.1.span.lo) && (decide (r2.1.1.span.hi = a.2.2.1.span.hi) && (decide ((r2.1.1.from_ : Int) = a.2.2.1.from_) && (decide ((r2.1.1.to_ : Int) = a.2.2.1.to_) && (decide ((r2.1.1.epoch : Int) = a.2.2.1.epoch) && (decide ((r2.1.1.under : Int) = a.2.2.1.under) && (decide ((r2.1.1.stage : Int) = a.2.2.1.stage) && true))))))))) then
  some (.inr (.inl ((false, ()), (a.2.1, a.2.2.1, a.2.2.2.1, ()))))
  else
  (scheme_Right ([r2.1.1] : List (DScheme))).bind fun r7 =>
  (bif (!r7.1) then
  some (.inr (.inl ((false, ()), (a.2.1, a.2.2.1, a.2.2.2.1, ()))))
  else
  (bif (decide ((r2.1.1.stage : Int) ≠ a.2.2.1.stage)) then
  (bif (decide ((r2.1.2.1.epoch : Int) ≠ a.2.2.2.1.epoch)) then
  (bif (decide ((r2.1.1.stage : Int) ≠ 4)) then
  some (.inr (.inl ((false, ()), (a.2.1, a.2.2.1, a.2.2.2.1, ()))))
  else
  (bif (decide ((a.2.2.1.stage : Int) ≠ 3)) then
  some (.inr (.inl ((false, ()), (a.2.1, a.2.2.1, a.2.2.2.1, ()))))
  else
  (bif (decide ((r2.1.1.under : Int) ≠ r2.1.2.1.epoch)) then
  some (.inr (.inl ((false, ()), (a.2.1, a.2.2.1, a.2.2.2.1, ()))))
  else
  (shares_Of a.2.2.2.1 a.1.2.1).bind fun r8 =>
  (shares_Of r2.1.2.1 a.1.2.1).bind fun r9 =>
  (bif (decide (r8.1.2.1 ≠ r9.1.2.1)) then
  some (.inr (.inl ((false, ()), (a.2.1, a.2.2.1, a.2.2.2.1, ()))))
  else
  (span_Has a.2.1 a.1.2.1).bind fun r10 =>
  (bif (!r10.1) then
  (bif r8.1.2.1 then
  (bif (decide ((r8.1.1.group : Int) ≠ r9.1.1.group)) then
  some (.inr (.inl ((false, ()), (a.2.1, a.2.2.1, a.2.2.2.1, ()))))
  else
  (bif (decide ((r8.1.1.epoch : Int) ≠ r9.1.1.epoch)) then
  some (.inr (.inl ((false, ()), (a.2.1, a.2.2.1, a.2.2.2.1, ()))))
  else
  some (.inl ((a.1.1, a.1.2.1, (), (), (), (IntKind.i64.wrap (a.1.2.2.2.2.2.1 + 1)), (IntKind.i64.wrap (a.1.2.2.2.2.2.2.1 + 1)), (IntKind.i64.wrap (a.1.2.2.2.2.2.2.2.1 + 1)), ()), (a.2.1, r2.1.1, r2.1.2.1, ())))))
  else
  some (.inl ((a.1.1, a.1.2.1, (), (), (), (IntKind.i64.wrap (a.1.2.2.2.2.2.1 + 1)), (IntKind.i64.wrap (a.1.2.2.2.2.2.2.1 + 1)), (IntKind.i64.wrap (a.1.2.2.2.2.2.2.2.1 + 1)), ()), (a.2.1, r2.1.1, r2.1.2.1, ()))))
  else
  some (.inl ((a.1.1, a.1.2.1, (), (), (), (IntKind.i64.wrap (a.1.2.2.2.2.2.1 + 1)), (IntKind.i64.wrap (a.1.2.2.2.2.2.2.1 + 1)), (IntKind.i64.wrap (a.1.2.2.2.2.2.2.2.1 + 1)), ()), (a.2.1, r2.1.1, r2.1.2.1, ()))))))))
  else
  (watershedkit_SameShares r2.1.2.1 a.2.2.2.1).bind fun r11 =>
  (bif (!r11.1) then
  some (.inr (.inl ((false, ()), (a.2.1, a.2.2.1, a.2.2.2.1, ()))))
  else
  (shares_Of a.2.2.2.1 a.1.2.1).bind fun r12 =>
  (shares_Of r2.1.2.1 a.1.2.1).bind fun r13 =>
  (bif (decide (r12.1.2.1 ≠ r13.1.2.1)) then
  some (.inr (.inl ((false, ()), (a.2.1, a.2.2.1, a.2.2.2.1, ()))))
  else
  (span_Has a.2.1 a.1.2.1).bind fun r14 =>
  (bif (!r14.1) then
  (bif r12.1.2.1 then
  (bif (decide ((r12.1.1.group : Int) ≠ r13.1.1.group)) then
  some (.inr (.inl ((false, ()), (a.2.1, a.2.2.1, a.2.2.2.1, ()))))
  else
  (bif (decide ((r12.1.1.epoch : Int) ≠ r13.1.1.epoch)) then
  some (.inr (.inl ((false, ()), (a.2.1, a.2.2.1, a.2.2.2.1, ()))))
  else
  some (.inl ((a.1.1, a.1.2.1, (), (), (), (IntKind.i64.wrap (a.1.2.2.2.2.2.1 + 1)), a.1.2.2.2.2.2.2.1, (IntKind.i64.wrap (a.1.2.2.2.2.2.2.2.1 + 1)), ()), (a.2.1, r2.1.1, r2.1.2.1, ())))))
  else
  some (.inl ((a.1.1, a.1.2.1, (), (), (), (IntKind.i64.wrap (a.1.2.2.2.2.2.1 + 1)), a.1.2.2.2.2.2.2.1, (IntKind.i64.wrap (a.1.2.2.2.2.2.2.2.1 + 1)), ()), (a.2.1, r2.1.1, r2.1.2.1, ()))))
  else
  some (.inl ((a.1.1, a.1.2.1, (), (), (), (IntKind.i64.wrap (a.1.2.2.2.2.2.1 + 1)), a.1.2.2.2.2.2.2.1, (IntKind.i64.wrap (a.1.2.2.2.2.2.2.2.1 + 1)), ()), (a.2.1, r2.1.1, r2.1.2.1, ())))))))
  else
  (bif (decide ((r2.1.2.1.epoch : Int) ≠ a.2.2.2.1.epoch)) then
  (bif (decide ((r2.1.1.stage : Int) ≠ 4)) then
  some (.inr (.inl ((false, ()), (a.2.1, a.2.2.1, a.2.2.2.1, ()))))
  else
  (bif (decide ((a.2.2.1.stage : Int) ≠ 3)) then
  some (.inr (.inl ((false, ()), (a.2.1, a.2.2.1, a.2.2.2.1, ()))))
  else
  (bif (decide ((r2.1.1.under : Int) ≠ r2.1.2.1.epoch)) then
  some (.inr (.inl ((false, ()), (a.2.1, a.2.2.1, a.2.2.2.1, ()))))
  else
  (shares_Of a.2.2.2.1 a.1.2.1).bind fun r15 =>
  (shares_Of r2.1.2.1 a.1.2.1).bind fun r16 =>
  (bif (decide (r15.1.2.1 ≠ r16.1.2.1)) then
  some (.inr (.inl ((false, ()), (a.2.1, a.2.2.1, a.2.2.2.1, ()))))
  else
  (span_Has a.2.1 a.1.2.1).bind fun r17 =>
  (bif (!r17.1) then
  (bif r15.1.2.1 then
  (bif (decide ((r15.1.1.group : Int) ≠ r16.1.1.group)) then
  some (.inr (.inl ((false, ()), (a.2.1, a.2.2.1, a.2.2.2.1, ()))))
  else
  (bif (decide ((r15.1.1.epoch : Int) ≠ r16.1.1.epoch)) then
  some (.inr (.inl ((false, ()), (a.2.1, a.2.2.1, a.2.2.2.1, ()))))
  else
  some (.inl ((a.1.1, a.1.2.1, (), (), (), a.1.2.2.2.2.2.1, (IntKind.i64.wrap (a.1.2.2.2.2.2.2.1 + 1)), (IntKind.i64.wrap (a.1.2.2.2.2.2.2.2.1 + 1)), ()), (a.2.1, r2.1.1, r2.1.2.1, ())))))
  else
  some (.inl ((a.1.1, a.1.2.1, (), (), (), a.1.2.2.2.2.2.1, (IntKind.i64.wrap (a.1.2.2.2.2.2.2.1 + 1)), (IntKind.i64.wrap (a.1.2.2.2.2.2.2.2.1 + 1)), ()), (a.2.1, r2.1.1, r2.1.2.1, ()))))
  else
  some (.inl ((a.1.1, a.1.2.1, (), (), (), a.1.2.2.2.2.2.1, (IntKind.i64.wrap (a.1.2.2.2.2.2.2.1 + 1)), (IntKind.i64.wrap (a.1.2.2.2.2.2.2.2.1 + 1)), ()), (a.2.1, r2.1.1, r2.1.2.1, ()))))))))
  else
  (watershedkit_SameShares r2.1.2.1 a.2.2.2.1).bind fun r18 =>
  (bif (!r18.1) then
  some (.inr (.inl ((false, ()), (a.2.1, a.2.2.1, a.2.2.2.1, ()))))
  else
  (shares_Of a.2.2.2.1 a.1.2.1).bind fun r19 =>
  (shares_Of r2.1.2.1 a.1.2.1).bind fun r20 =>
  (bif (decide (r19.1.2.1 ≠ r20.1.2.1)) then
  some (.inr (.inl ((false, ()), (a.2.1, a.2.2.1, a.2.2.2.1, ()))))
  else
  (span_Has a.2.1 a.1.2.1).bind fun r21 =>
  (bif (!r21.1) then
  (bif r19.1.2.1 then
  (bif (decide ((r19.1.1.group : Int) ≠ r20.1.1.group)) then
  some (.inr (.inl ((false, ()), (a.2.1, a.2.2.1, a.2.2.2.1, ()))))
  else
  (bif (decide ((r19.1.1.epoch : Int) ≠ r20.1.1.epoch)) then
  some (.inr (.inl ((false, ()), (a.2.1, a.2.2.1, a.2.2.2.1, ()))))
  else
  some (.inl ((a.1.1, a.1.2.1, (), (), (), a.1.2.2.2.2.2.1, a.1.2.2.2.2.2.2.1, (IntKind.i64.wrap (a.1.2.2.2.2.2.2.2.1 + 1)), ()), (a.2.1, r2.1.1, r2.1.2.1, ())))))
  else
  some (.inl ((a.1.1, a.1.2.1, (), (), (), a.1.2.2.2.2.2.1, a.1.2.2.2.2.2.2.1, (IntKind.i64.wrap (a.1.2.2.2.2.2.2.2.1 + 1)), ()), (a.2.1, r2.1.1, r2.1.2.1, ()))))
  else
  some (.inl ((a.1.1, a.1.2.1, (), (), (), a.1.2.2.2.2.2.1, a.1.2.2.2.2.2.2.1, (IntKind.i64.wrap (a.1.2.2.2.2.2.2.2.1 + 1)), ()), (a.2.1, r2.1.1, r2.1.2.1, ()))))))))))
  else
  (scheme_Right ([r2.1.1] : List (DScheme))).bind fun r22 =>
  (bif (!r22.1) then
  some (.inr (.inl ((false, ()), (a.2.1, a.2.2.1, a.2.2.2.1, ()))))
  else
  (bif (decide ((r2.1.1.stage : Int) ≠ a.2.2.1.stage)) then
  (bif (decide ((r2.1.2.1.epoch : Int) ≠ a.2.2.2.1.epoch)) then
  (bif (decide ((r2.1.1.stage : Int) ≠ 4)) then
  some (.inr (.inl ((false, ()), (a.2.1, a.2.2.1, a.2.2.2.1, ()))))
  else
  (bif (decide ((a.2.2.1.stage : Int) ≠ 3)) then
  some (.inr (.inl ((false, ()), (a.2.1, a.2.2.1, a.2.2.2.1, ()))))
  else
  (bif (decide ((r2.1.1.under : Int) ≠ r2.1.2.1.epoch)) then
  some (.inr (.inl ((false, ()), (a.2.1, a.2.2.1, a.2.2.2.1, ()))))
  else
  (shares_Of a.2.2.2.1 a.1.2.1).bind fun r23 =>
  (shares_Of r2.1.2.1 a.1.2.1).bind fun r24 =>
  (bif (decide (r23.1.2.1 ≠ r24.1.2.1)) then
  some (.inr (.inl ((false, ()), (a.2.1, a.2.2.1, a.2.2.2.1, ()))))
  else
  (span_Has a.2.1 a.1.2.1).bind fun r25 =>
  (bif (!r25.1) then
  (bif r23.1.2.1 then
  (bif (decide ((r23.1.1.group : Int) ≠ r24.1.1.group)) then
  some (.inr (.inl ((false, ()), (a.2.1, a.2.2.1, a.2.2.2.1, ()))))
  else
  (bif (decide ((r23.1.1.epoch : Int) ≠ r24.1.1.epoch)) then
  some (.inr (.inl ((false, ()), (a.2.1, a.2.2.1, a.2.2.2.1, ()))))
  else
  some (.inl ((a.1.1, a.1.2.1, (), (), (), (IntKind.i64.wrap (a.1.2.2.2.2.2.1 + 1)), (IntKind.i64.wrap (a.1.2.2.2.2.2.2.1 + 1)), (IntKind.i64.wrap (a.1.2.2.2.2.2.2.2.1 + 1)), ()), (a.2.1, r2.1.1, r2.1.2.1, ())))))
  else
  some (.inl ((a.1.1, a.1.2.1, (), (), (), (IntKind.i64.wrap (a.1.2.2.2.2.2.1 + 1)), (IntKind.i64.wrap (a.1.2.2.2.2.2.2.1 + 1)), (IntKind.i64.wrap (a.1.2.2.2.2.2.2.2.1 + 1)), ()), (a.2.1, r2.1.1, r2.1.2.1, ()))))
  else
  some (.inl ((a.1.1, a.1.2.1, (), (), (), (IntKind.i64.wrap (a.1.2.2.2.2.2.1 + 1)), (IntKind.i64.wrap (a.1.2.2.2.2.2.2.1 + 1)), (IntKind.i64.wrap (a.1.2.2.2.2.2.2.2.1 + 1)), ()), (a.2.1, r2.1.1, r2.1.2.1, ()))))))))
  else
  (watershedkit_SameShares r2.1.2.1 a.2.2.2.1).bind fun r26 =>
  (bif (!r26.1) then
  some (.inr (.inl ((false, ()), (a.2.1, a.2.2.1, a.2.2.2.1, ()))))
  else
  (shares_Of a.2.2.2.1 a.1.2.1).bind fun r27 =>
  (shares_Of r2.1.2.1 a.1.2.1).bind fun r28 =>
  (bif (decide (r27.1.2.1 ≠ r28.1.2.1)) then
  some (.inr (.inl ((false, ()), (a.2.1, a.2.2.1, a.2.2.2.1, ()))))
  else
  (span_Has a.2.1 a.1.2.1).bind fun r29 =>
  (bif (!r29.1) then
  (bif r27.1.2.1 then
  (bif (decide ((r27.1.1.group : Int) ≠ r28.1.1.group)) then
  some (.inr (.inl ((false, ()), (a.2.1, a.2.2.1, a.2.2.2.1, ()))))
  else
  (bif (decide ((r27.1.1.epoch : Int) ≠ r28.1.1.epoch)) then
  some (.inr (.inl ((false, ()), (a.2.1, a.2.2.1, a.2.2.2.1, ()))))
  else
  some (.inl ((a.1.1, a.1.2.1, (), (), (), (IntKind.i64.wrap (a.1.2.2.2.2.2.1 + 1)), a.1.2.2.2.2.2.2.1, (IntKind.i64.wrap (a.1.2.2.2.2.2.2.2.1 + 1)), ()), (a.2.1, r2.1.1, r2.1.2.1, ())))))
  else
  some (.inl ((a.1.1, a.1.2.1, (), (), (), (IntKind.i64.wrap (a.1.2.2.2.2.2.1 + 1)), a.1.2.2.2.2.2.2.1, (IntKind.i64.wrap (a.1.2.2.2.2.2.2.2.1 + 1)), ()), (a.2.1, r2.1.1, r2.1.2.1, ()))))
  else
  some (.inl ((a.1.1, a.1.2.1, (), (), (), (IntKind.i64.wrap (a.1.2.2.2.2.2.1 + 1)), a.1.2.2.2.2.2.2.1, (IntKind.i64.wrap (a.1.2.2.2.2.2.2.2.1 + 1)), ()), (a.2.1, r2.1.1, r2.1.2.1, ())))))))
  else
  (bif (decide ((r2.1.2.1.epoch : Int) ≠ a.2.2.2.1.epoch)) then
  (bif (decide ((r2.1.1.stage : Int) ≠ 4)) then
  some (.inr (.inl ((false, ()), (a.2.1, a.2.2.1, a.2.2.2.1, ()))))
  else
  (bif (decide ((a.2.2.1.stage : Int) ≠ 3)) then
  some (.inr (.inl ((false, ()), (a.2.1, a.2.2.1, a.2.2.2.1, ()))))
  else
  (bif (decide ((r2.1.1.under : Int) ≠ r2.1.2.1.epoch)) then
  some (.inr (.inl ((false, ()), (a.2.1, a.2.2.1, a.2.2.2.1, ()))))
  else
  (shares_Of a.2.2.2.1 a.1.2.1).bind fun r30 =>
  (shares_Of r2.1.2.1 a.1.2.1).bind fun r31 =>
  (bif (decide (r30.1.2.1 ≠ r31.1.2.1)) then
  some (.inr (.inl ((false, ()), (a.2.1, a.2.2.1, a.2.2.2.1, ()))))
  else
  (span_Has a.2.1 a.1.2.1).bind fun r32 =>
  (bif (!r32.1) then
  (bif r30.1.2.1 then
  (bif (decide ((r30.1.1.group : Int) ≠ r31.1.1.group)) then
  some (.inr (.inl ((false, ()), (a.2.1, a.2.2.1, a.2.2.2.1, ()))))
  else
  (bif (decide ((r30.1.1.epoch : Int) ≠ r31.1.1.epoch)) then
  some (.inr (.inl ((false, ()), (a.2.1, a.2.2.1, a.2.2.2.1, ()))))
  else
  some (.inl ((a.1.1, a.1.2.1, (), (), (), a.1.2.2.2.2.2.1, (IntKind.i64.wrap (a.1.2.2.2.2.2.2.1 + 1)), (IntKind.i64.wrap (a.1.2.2.2.2.2.2.2.1 + 1)), ()), (a.2.1, r2.1.1, r2.1.2.1, ())))))
  else
  some (.inl ((a.1.1, a.1.2.1, (), (), (), a.1.2.2.2.2.2.1, (IntKind.i64.wrap (a.1.2.2.2.2.2.2.1 + 1)), (IntKind.i64.wrap (a.1.2.2.2.2.2.2.2.1 + 1)), ()), (a.2.1, r2.1.1, r2.1.2.1, ()))))
  else
  some (.inl ((a.1.1, a.1.2.1, (), (), (), a.1.2.2.2.2.2.1, (IntKind.i64.wrap (a.1.2.2.2.2.2.2.1 + 1)), (IntKind.i64.wrap (a.1.2.2.2.2.2.2.2.1 + 1)), ()), (a.2.1, r2.1.1, r2.1.2.1, ()))))))))
  else
  (watershedkit_SameShares r2.1.2.1 a.2.2.2.1).bind fun r33 =>
  (bif (!r33.1) then
  some (.inr (.inl ((false, ()), (a.2.1, a.2.2.1, a.2.2.2.1, ()))))
  else
  (shares_Of a.2.2.2.1 a.1.2.1).bind fun r34 =>
  (shares_Of r2.1.2.1 a.1.2.1).bind fun r35 =>
  (bif (decide (r34.1.2.1 ≠ r35.1.2.1)) then
  some (.inr (.inl ((false, ()), (a.2.1, a.2.2.1, a.2.2.2.1, ()))))
  else
  (span_Has a.2.1 a.1.2.1).bind fun r36 =>
  (bif (!r36.1) then
  (bif r34.1.2.1 then
  (bif (decide ((r34.1.1.group : Int) ≠ r35.1.1.group)) then
  some (.inr (.inl ((false, ()), (a.2.1, a.2.2.1, a.2.2.2.1, ()))))
  else
  (bif (decide ((r34.1.1.epoch : Int) ≠ r35.1.1.epoch)) then
  some (.inr (.inl ((false, ()), (a.2.1, a.2.2.1, a.2.2.2.1, ()))))
  else
  some (.inl ((a.1.1, a.1.2.1, (), (), (), a.1.2.2.2.2.2.1, a.1.2.2.2.2.2.2.1, (IntKind.i64.wrap (a.1.2.2.2.2.2.2.2.1 + 1)), ()), (a.2.1, r2.1.1, r2.1.2.1, ())))))
  else
  some (.inl ((a.1.1, a.1.2.1, (), (), (), a.1.2.2.2.2.2.1, a.1.2.2.2.2.2.2.1, (IntKind.i64.wrap (a.1.2.2.2.2.2.2.2.1 + 1)), ()), (a.2.1, r2.1.1, r2.1.2.1, ()))))
  else
  some (.inl ((a.1.1, a.1.2.1, (), (), (), a.1.2.2.2.2.2.1, a.1.2.2.2.2.2.2.1, (IntKind.i64.wrap (a.1.2.2.2.2.2.2.2.1 + 1)), ()), (a.2.1, r2.1.1, r2.1.2.1, ())))))))))))
  else
  some (.inr (.inr (((), (), a.1.2.2.2.2.2.1, a.1.2.2.2.2.2.2.1, ()), (a.2.1, a.2.2.1, a.2.2.2.1, ())))))
noncomputable def watershedlaw20_SchemeGoes_e1 : LE CT Try.prog := ⟨11, [4, 5, 8, 13, 15, 16, 17, 18], [.one (.sl 1), .one (.str), .one (.ptr 0 0), .one (.ptr 1 0), .one (.ptr 2 0), .one (.int .i64), .one (.int .i64), .one (.int .i64)], [.cobj 26 4, .cobj 32 10, .cobj 24 8], [⟨.ret, [12], [.one (.bool)], [.cobj 26 4, .cobj 32 10, .cobj 24 8]⟩, ⟨.exit 0, [13, 15, 16, 17], [.one (.ptr 1 0), .one (.ptr 2 0), .one (.int .i64), .one (.int .i64)], [.cobj 26 4, .cobj 32 10, .cobj 24 8]⟩], watershedlaw20_SchemeGoes_l1⟩
noncomputable def watershedlaw20_SchemeGoes_lt : List (LE CT Try.prog) := [watershedlaw20_SchemeGoes_e1]
theorem watershedlaw20_SchemeGoes_e1_ok : LeOk watershedlaw20_SchemeGoes_e1 (nthL (bodyOf Try.f3) 0) := fun A env h k z hk => le_ok (E := watershedlaw20_SchemeGoes_e1) (orcOf_ok watershedlaw20_SchemeGoes_tb) (dr := watershedlaw20_SchemeGoes_dr) (lps := lpsOf watershedlaw20_SchemeGoes_lt) (no_loop (by kernel_rfl)) (fun a => by kernel_rfl) env h k z hk
noncomputable def watershedlaw20_SchemeGoes (x0 : DShares) (x1 : Int) (x2 : DSpan) (x3 : Int) (x4 : List (UInt8)) (x5 : List UInt8) : Option ((Bool) × (Unit)) :=
  (watershedlaw20_awake).bind fun r1 =>
  (bif (!r1.1) then
  some (false, ())
  else
  (watershedlaw20_great x0 ([x2] : List (DSpan))).bind fun r2 =>
  (bif r2.1 then
  some (true, ())
  else
  (bif (decide ((200 : Int) < (x4.length : Int))) then
  some (true, ())
  else
  (bif (decide ((100 : Int) < (x5.length : Int))) then
  some (true, ())
  else
  (scheme_Begin x0 x1 x2 x3).bind fun r3 =>
  (bif (decide ((r3.1.2.1 : Int) ≠ 0)) then
  let y4 : Bool := (decide ((r3.1.1.num : Int) = 0) && (decide (r3.1.1.span.lo = ([] : List UInt8)) && (decide (r3.1.1.span.hi = ([] : List UInt8)) && (decide ((r3.1.1.from_ : Int) = 0) && (decide ((r3.1.1.to_ : Int) = 0) && (decide ((r3.1.1.epoch : Int) = 0) && (decide ((r3.1.1.under : Int) = 0) && (decide ((r3.1.1.stage : Int) = 0) && true))))))))
  some (y4, ())
  else
  (loopM watershedlaw20_SchemeGoes_l1 ((x4, x5, (), (), (), 0, 0, 0, ()), (x2, r3.1.1, x0, ()))).bind fun b5 =>
  (match b5 with
  | .inl b6 =>
  some (b6.1.1, ())
  | .inr b7 =>
  (bif (decide ((b7.1.2.2.1 : Int) ≤ 5)) then
  (bif (decide ((b7.1.2.2.2.1 : Int) ≤ 1)) then
  (bif (decide ((4 : Int) ≤ b7.2.2.1.stage)) then
  (bif (decide ((decide ((b7.1.2.2.2.1 : Int) = 1)) = (decide ((b7.2.2.1.stage : Int) ≤ 6)))) then
  (shares_Right b7.2.2.2.1).bind fun r8 =>
  some (r8.1, ())
  else
  some (false, ()))
  else
  (bif (decide ((decide ((b7.1.2.2.2.1 : Int) = 1)) = false)) then
  (shares_Right b7.2.2.2.1).bind fun r9 =>
  some (r9.1, ())
  else
  some (false, ())))
  else
  some (false, ()))
  else
  some (false, ()))))))))
noncomputable def watershedlaw20_SchemeGoes_ce : CE CT Try.prog where
  f := 3
  args := [.cod 8, .one (.int .i64), .cod 4, .one (.int .i64), .one (.sl 1), .one (.str)]
  hs := []
  res := .val (.one (.bool))
  outs := []
  m := fun d dh => watershedlaw20_SchemeGoes d.1 d.2.1 d.2.2.1 d.2.2.2.1 d.2.2.2.2.1 d.2.2.2.2.2.1
  ok := ce_ok mixedP Try.func3 (by kernel_rfl) (orcOf_ok watershedlaw20_SchemeGoes_tb) (dr := watershedlaw20_SchemeGoes_dr) (lps := lpsOf watershedlaw20_SchemeGoes_lt) (lps_fn (lps_of (n := 1) (by kernel_rfl) fun i hi => match i, hi with | 0, _ => lp_ok (E := watershedlaw20_SchemeGoes_e1) (by kernel_rfl) watershedlaw20_SchemeGoes_e1_ok)) (fun d dh => by kernel_rfl)

def watershedlaw20_SchemeEnds_dr : Nat → DrA
  | 20 => ⟨[0, 1, 2, 4, 3, 5, 6], [[], [], [0, 1], [0, 1, 2], [], [4], [0, 1, 2, 3, 4, 5]], [], [], [], false⟩
  | _ => ⟨[], [], [], [], [], false⟩
noncomputable def watershedlaw20_SchemeEnds_tb : List (CE CT Try.prog) := [watershedlaw20_awake_ce, watershedlaw20_great_ce, scheme_Right_ce, shares_Right_ce, scheme_Over_ce, scheme_Goes_ce, scheme_Step_ce]
noncomputable def watershedlaw20_SchemeEnds_l2 (a : ((Bool) × (Unit) × (Unit) × (List (UInt8)) × (Int) × (Unit) × (Unit) × (Int) × Unit) × ((DScheme) × (DShares) × (DScheme) × (DShares) × (Unit) × Unit)) : Option ((((Bool) × (Unit) × (Unit) × (List (UInt8)) × (Int) × (Unit) × (Unit) × (Int) × Unit) × ((DScheme) × (DShares) × (DScheme) × (DShares) × (Unit) × Unit)) ⊕ ((((Bool) × Unit) × ((DScheme) × (DShares) × (DScheme) × (DShares) × (Unit) × Unit)) ⊕ (((Bool) × (Unit) × (Unit) × (List (UInt8)) × (Int) × (Unit) × (Unit) × Unit) × ((DScheme) × (DShares) × (DScheme) × (DShares) × (Unit) × (Unit) × Unit)))) :=
  (bif (decide ((a.1.2.2.2.2.2.2.2.1 : Int) < (a.1.2.2.2.1.length : Int))) then
  (getI a.1.2.2.2.1 a.1.2.2.2.2.2.2.2.1).bind fun e1 =>
  (bif (decide (((e1.toNat : Int) : Int) = a.2.2.2.1.stage)) then
  some (.inr (.inl ((false, ()), (a.2.1, a.2.2.1, a.2.2.2.1, a.2.2.2.2.1, (), ()))))
  else
  some (.inl ((a.1.1, (), (), a.1.2.2.2.1, a.1.2.2.2.2.1, (), (), (IntKind.i64.wrap (a.1.2.2.2.2.2.2.2.1 + 1)), ()), (a.2.1, a.2.2.1, a.2.2.2.1, a.2.2.2.2.1, (), ()))))
  else
  some (.inr (.inr ((a.1.1, (), (), a.1.2.2.2.1, a.1.2.2.2.2.1, (), (), ()), (a.2.1, a.2.2.1, a.2.2.2.1, a.2.2.2.2.1, (), (), ())))))
noncomputable def watershedlaw20_SchemeEnds_e2 : LE CT Try.prog := ⟨18, [2, 3, 4, 7, 8, 10, 11, 13], [.one (.bool), .one (.ptr 0 0), .one (.ptr 1 0), .one (.own 1 4), .one (.int .i64), .one (.ptr 2 0), .one (.ptr 3 0), .one (.int .i64)], [.cobj 32 10, .cobj 24 8, .cobj 32 10, .cobj 24 8, .row 30 1], [⟨.ret, [6], [.one (.bool)], [.cobj 32 10, .cobj 24 8, .cobj 32 10, .cobj 24 8, .dead]⟩, ⟨.exit 2, [2, 3, 4, 7, 8, 10, 11], [.one (.bool), .one (.ptr 0 0), .one (.ptr 1 0), .one (.own 1 5), .one (.int .i64), .one (.ptr 2 0), .one (.ptr 3 0)], [.cobj 32 10, .cobj 24 8, .cobj 32 10, .cobj 24 8, .dead, .row 30 1]⟩], watershedlaw20_SchemeEnds_l2⟩
noncomputable def watershedlaw20_SchemeEnds_l1 (a : ((Bool) × (Unit) × (Unit) × (List (UInt8)) × (Int) × Unit) × ((DScheme) × (DShares) × (Unit) × Unit)) : Option ((((Bool) × (Unit) × (Unit) × (List (UInt8)) × (Int) × Unit) × ((DScheme) × (DShares) × (Unit) × Unit)) ⊕ ((((Bool) × Unit) × ((DScheme) × (DShares) × (Unit) × Unit)) ⊕ (((Unit) × (List (UInt8)) × Unit) × ((DScheme) × (DShares) × (Unit) × (Unit) × Unit)))) :=
  (bif (decide ((a.1.2.2.2.2.1 : Int) < 6)) then
  (scheme_Over a.2.1).bind fun r1 =>
  (bif (!r1.1) then
  (bif a.1.1 then
  (scheme_Goes a.2.1.stage 7).bind fun r2 =>
  (bif r2.1 then
  (scheme_Step a.2.1 a.2.2.1 7).bind fun r3 =>
  (bif (decide ((r3.1.2.2.1 : Int) ≠ 0)) then
  (scheme_Goes a.2.1.stage 7).bind fun r4 =>
  (bif r4.1 then
  (scheme_Step a.2.1 a.2.2.1 7).bind fun r5 =>
  (bif (decide ((r5.1.2.2.1 : Int) ≠ 0)) then
  some (.inr (.inl ((false, ()), (a.2.1, a.2.2.1, (), ()))))
  else
  (loopM watershedlaw20_SchemeEnds_l2 ((a.1.1, (), (), a.1.2.2.2.1, a.1.2.2.2.2.1, (), (), 0, ()), (a.2.1, a.2.2.1, r5.1.1, r5.1.2.1, (), ()))).bind fun b6 =>
  (match b6 with
  | .inl b7 =>
  some (.inr (.inl ((b7.1.1, ()), (b7.2.1, b7.2.2.1, (), ()))))
  | .inr b9 =>
  (b8 b9.2.2.2.1.stage).bind fun u10 =>
  (if b9.1.2.2.2.1.length + ([u10] : List (UInt8)).length ≤ 140737488355328 ∧ (b9.1.2.2.2.1.length + ([u10] : List (UInt8)).length) * 1 ≤ 140737488355328 then
  some (.inl ((b9.1.1, (), (), (b9.1.2.2.2.1 ++ ([u10] : List (UInt8))), (IntKind.i64.wrap (b9.1.2.2.2.2.1 + 1)), ()), (b9.2.2.2.1, b9.2.2.2.2.1, (), ())))
  else none)))
  else
  (bif (decide ((r3.1.2.2.1 : Int) ≠ 0)) then
  some (.inr (.inl ((false, ()), (a.2.1, a.2.2.1, (), ()))))
  else
  (loopM watershedlaw20_SchemeEnds_l2 ((a.1.1, (), (), a.1.2.2.2.1, a.1.2.2.2.2.1, (), (), 0, ()), (a.2.1, a.2.2.1, r3.1.1, r3.1.2.1, (), ()))).bind fun b11 =>
  (match b11 with
  | .inl b12 =>
  some (.inr (.inl ((b12.1.1, ()), (b12.2.1, b12.2.2.1, (), ()))))
  | .inr b13 =>
  (b8 b13.2.2.2.1.stage).bind fun u14 =>
  (if b13.1.2.2.2.1.length + ([u14] : List (UInt8)).length ≤ 140737488355328 ∧ (b13.1.2.2.2.1.length + ([u14] : List (UInt8)).length) * 1 ≤ 140737488355328 then
  some (.inl ((b13.1.1, (), (), (b13.1.2.2.2.1 ++ ([u14] : List (UInt8))), (IntKind.i64.wrap (b13.1.2.2.2.2.1 + 1)), ()), (b13.2.2.2.1, b13.2.2.2.2.1, (), ())))
  else none))))
  else
  (bif (decide ((r3.1.2.2.1 : Int) ≠ 0)) then
  some (.inr (.inl ((false, ()), (a.2.1, a.2.2.1, (), ()))))
  else
  (loopM watershedlaw20_SchemeEnds_l2 ((a.1.1, (), (), a.1.2.2.2.1, a.1.2.2.2.2.1, (), (), 0, ()), (a.2.1, a.2.2.1, r3.1.1, r3.1.2.1, (), ()))).bind fun b15 =>
  (match b15 with
  | .inl b16 =>
  some (.inr (.inl ((b16.1.1, ()), (b16.2.1, b16.2.2.1, (), ()))))
  | .inr b17 =>
  (b8 b17.2.2.2.1.stage).bind fun u18 =>
  (if b17.1.2.2.2.1.length + ([u18] : List (UInt8)).length ≤ 140737488355328 ∧ (b17.1.2.2.2.1.length + ([u18] : List (UInt8)).length) * 1 ≤ 140737488355328 then
  some (.inl ((b17.1.1, (), (), (b17.1.2.2.2.1 ++ ([u18] : List (UInt8))), (IntKind.i64.wrap (b17.1.2.2.2.2.1 + 1)), ()), (b17.2.2.2.1, b17.2.2.2.2.1, (), ())))
  else none))))
  else
  (scheme_Step a.2.1 a.2.2.1 (IntKind.u8.wrap (a.2.1.stage + 1))).bind fun r19 =>
  (bif (decide ((r19.1.2.2.1 : Int) ≠ 0)) then
  (scheme_Goes a.2.1.stage 7).bind fun r20 =>
  (bif r20.1 then
  (scheme_Step a.2.1 a.2.2.1 7).bind fun r21 =>
  (bif (decide ((r21.1.2.2.1 : Int) ≠ 0)) then
  some (.inr (.inl ((false, ()), (a.2.1, a.2.2.1, (), ()))))
  else
  (loopM watershedlaw20_SchemeEnds_l2 ((a.1.1, (), (), a.1.2.2.2.1, a.1.2.2.2.2.1, (), (), 0, ()), (a.2.1, a.2.2.1, r21.1.1, r21.1.2.1, (), ()))).bind fun b22 =>
  (match b22 with
  | .inl b23 =>
  some (.inr (.inl ((b23.1.1, ()), (b23.2.1, b23.2.2.1, (), ()))))
  | .inr b24 =>
  (b8 b24.2.2.2.1.stage).bind fun u25 =>
  (if b24.1.2.2.2.1.length + ([u25] : List (UInt8)).length ≤ 140737488355328 ∧ (b24.1.2.2.2.1.length + ([u25] : List (UInt8)).length) * 1 ≤ 140737488355328 then
  some (.inl ((b24.1.1, (), (), (b24.1.2.2.2.1 ++ ([u25] : List (UInt8))), (IntKind.i64.wrap (b24.1.2.2.2.2.1 + 1)), ()), (b24.2.2.2.1, b24.2.2.2.2.1, (), ())))
  else none)))
  else
  (bif (decide ((r19.1.2.2.1 : Int) ≠ 0)) then
  some (.inr (.inl ((false, ()), (a.2.1, a.2.2.1, (), ()))))
  else
  (loopM watershedlaw20_SchemeEnds_l2 ((a.1.1, (), (), a.1.2.2.2.1, a.1.2.2.2.2.1, (), (), 0, ()), (a.2.1, a.2.2.1, r19.1.1, r19.1.2.1, (), ()))).bind fun b26 =>
  (match b26 with
  | .inl b27 =>
  some (.inr (.inl ((b27.1.1, ()), (b27.2.1, b27.2.2.1, (), ()))))
  | .inr b28 =>
  (b8 b28.2.2.2.1.stage).bind fun u29 =>
  (if b28.1.2.2.2.1.length + ([u29] : List (UInt8)).length ≤ 140737488355328 ∧ (b28.1.2.2.2.1.length + ([u29] : List (UInt8)).length) * 1 ≤ 140737488355328 then
  some (.inl ((b28.1.1, (), (), (b28.1.2.2.2.1 ++ ([u29] : List (UInt8))), (IntKind.i64.wrap (b28.1.2.2.2.2.1 + 1)), ()), (b28.2.2.2.1, b28.2.2.2.2.1, (), ())))
  else none))))
  else
  (bif (decide ((r19.1.2.2.1 : Int) ≠ 0)) then
  some (.inr (.inl ((false, ()), (a.2.1, a.2.2.1, (), ()))))
  else
  (loopM watershedlaw20_SchemeEnds_l2 ((a.1.1, (), (), a.1.2.2.2.1, a.1.2.2.2.2.1, (), (), 0, ()), (a.2.1, a.2.2.1, r19.1.1, r19.1.2.1, (), ()))).bind fun b30 =>
  (match b30 with
  | .inl b31 =>
  some (.inr (.inl ((b31.1.1, ()), (b31.2.1, b31.2.2.1, (), ()))))
  | .inr b32 =>
  (b8 b32.2.2.2.1.stage).bind fun u33 =>
  (if b32.1.2.2.2.1.length + ([u33] : List (UInt8)).length ≤ 140737488355328 ∧ (b32.1.2.2.2.1.length + ([u33] : List (UInt8)).length) * 1 ≤ 140737488355328 then
  some (.inl ((b32.1.1, (), (), (b32.1.2.2.2.1 ++ ([u33] : List (UInt8))), (IntKind.i64.wrap (b32.1.2.2.2.2.1 + 1)), ()), (b32.2.2.2.1, b32.2.2.2.2.1, (), ())))
  else none)))))
  else
  (scheme_Step a.2.1 a.2.2.1 (IntKind.u8.wrap (a.2.1.stage + 1))).bind fun r34 =>
  (bif (decide ((r34.1.2.2.1 : Int) ≠ 0)) then
  (scheme_Goes a.2.1.stage 7).bind fun r35 =>
  (bif r35.1 then
  (scheme_Step a.2.1 a.2.2.1 7).bind fun r36 =>
  (bif (decide ((r36.1.2.2.1 : Int) ≠ 0)) then
  some (.inr (.inl ((false, ()), (a.2.1, a.2.2.1, (), ()))))
  else
  (loopM watershedlaw20_SchemeEnds_l2 ((a.1.1, (), (), a.1.2.2.2.1, a.1.2.2.2.2.1, (), (), 0, ()), (a.2.1, a.2.2.1, r36.1.1, r36.1.2.1, (), ()))).bind fun b37 =>
  (match b37 with
  | .inl b38 =>
  some (.inr (.inl ((b38.1.1, ()), (b38.2.1, b38.2.2.1, (), ()))))
  | .inr b39 =>
  (b8 b39.2.2.2.1.stage).bind fun u40 =>
  (if b39.1.2.2.2.1.length + ([u40] : List (UInt8)).length ≤ 140737488355328 ∧ (b39.1.2.2.2.1.length + ([u40] : List (UInt8)).length) * 1 ≤ 140737488355328 then
  some (.inl ((b39.1.1, (), (), (b39.1.2.2.2.1 ++ ([u40] : List (UInt8))), (IntKind.i64.wrap (b39.1.2.2.2.2.1 + 1)), ()), (b39.2.2.2.1, b39.2.2.2.2.1, (), ())))
  else none)))
  else
  (bif (decide ((r34.1.2.2.1 : Int) ≠ 0)) then
  some (.inr (.inl ((false, ()), (a.2.1, a.2.2.1, (), ()))))
  else
  (loopM watershedlaw20_SchemeEnds_l2 ((a.1.1, (), (), a.1.2.2.2.1, a.1.2.2.2.2.1, (), (), 0, ()), (a.2.1, a.2.2.1, r34.1.1, r34.1.2.1, (), ()))).bind fun b41 =>
  (match b41 with
  | .inl b42 =>
  some (.inr (.inl ((b42.1.1, ()), (b42.2.1, b42.2.2.1, (), ()))))
  | .inr b43 =>
  (b8 b43.2.2.2.1.stage).bind fun u44 =>
  (if b43.1.2.2.2.1.length + ([u44] : List (UInt8)).length ≤ 140737488355328 ∧ (b43.1.2.2.2.1.length + ([u44] : List (UInt8)).length) * 1 ≤ 140737488355328 then
  some (.inl ((b43.1.1, (), (), (b43.1.2.2.2.1 ++ ([u44] : List (UInt8))), (IntKind.i64.wrap (b43.1.2.2.2.2.1 + 1)), ()), (b43.2.2.2.1, b43.2.2.2.2.1, (), ())))
  else none))))
  else
  (bif (decide ((r34.1.2.2.1 : Int) ≠ 0)) then
  some (.inr (.inl ((false, ()), (a.2.1, a.2.2.1, (), ()))))
  else
  (loopM watershedlaw20_SchemeEnds_l2 ((a.1.1, (), (), a.1.2.2.2.1, a.1.2.2.2.2.1, (), (), 0, ()), (a.2.1, a.2.2.1, r34.1.1, r34.1.2.1, (), ()))).bind fun b45 =>
  (match b45 with
  | .inl b46 =>
  some (.inr (.inl ((b46.1.1, ()), (b46.2.1, b46.2.2.1, (), ()))))
  | .inr b47 =>
  (b8 b47.2.2.2.1.stage).bind fun u48 =>
  (if b47.1.2.2.2.1.length + ([u48] : List (UInt8)).length ≤ 140737488355328 ∧ (b47.1.2.2.2.1.length + ([u48] : List (UInt8)).length) * 1 ≤ 140737488355328 then
  some (.inl ((b47.1.1, (), (), (b47.1.2.2.2.1 ++ ([u48] : List (UInt8))), (IntKind.i64.wrap (b47.1.2.2.2.2.1 + 1)), ()), (b47.2.2.2.1, b47.2.2.2.2.1, (), ())))
  else none)))))
  else
  some (.inr (.inr (((), a.1.2.2.2.1, ()), (a.2.1, a.2.2.1, (), (), ())))))
  else
  some (.inr (.inr (((), a.1.2.2.2.1, ()), (a.2.1, a.2.2.1, (), (), ())))))
noncomputable def watershedlaw20_SchemeEnds_e1 : LE CT Try.prog := ⟨7, [2, 3, 4, 7, 8], [.one (.bool), .one (.ptr 0 0), .one (.ptr 1 0), .one (.own 1 2), .one (.int .i64)], [.cobj 32 10, .cobj 24 8, .row 30 1], [⟨.ret, [6], [.one (.bool)], [.cobj 32 10, .cobj 24 8, .dead]⟩, ⟨.exit 0, [3, 7], [.one (.ptr 0 0), .one (.own 1 3)], [.cobj 32 10, .cobj 24 8, .dead, .row 30 1]⟩], watershedlaw20_SchemeEnds_l1⟩
noncomputable def watershedlaw20_SchemeEnds_lt : List (LE CT Try.prog) := [watershedlaw20_SchemeEnds_e2, watershedlaw20_SchemeEnds_e1]
theorem watershedlaw20_SchemeEnds_e2_ok : LeOk watershedlaw20_SchemeEnds_e2 (nthL (nthL (bodyOf Try.f4) 0) 0) := fun A env h k z hk => le_ok (E := watershedlaw20_SchemeEnds_e2) (orcOf_ok watershedlaw20_SchemeEnds_tb) (dr := watershedlaw20_SchemeEnds_dr) (lps := lpsOf watershedlaw20_SchemeEnds_lt) (no_loop (by kernel_rfl)) (fun a => by kernel_rfl) env h k z hk
theorem watershedlaw20_SchemeEnds_e1_ok : LeOk watershedlaw20_SchemeEnds_e1 (nthL (bodyOf Try.f4) 0) := fun A env h k z hk => le_ok (E := watershedlaw20_SchemeEnds_e1) (orcOf_ok watershedlaw20_SchemeEnds_tb) (dr := watershedlaw20_SchemeEnds_dr) (lps := lpsOf watershedlaw20_SchemeEnds_lt) (lps_of (n := 1) (by kernel_rfl) fun i hi => match i, hi with | 0, _ => lp_ok (E := watershedlaw20_SchemeEnds_e2) (by kernel_rfl) watershedlaw20_SchemeEnds_e2_ok) (fun a => by kernel_rfl) env h k z hk
noncomputable def watershedlaw20_SchemeEnds (x0 : DScheme) (x1 : DShares) (x2 : Bool) : Option ((Bool) × (Unit)) :=
  (watershedlaw20_awake).bind fun r1 =>
  (bif (!r1.1) then
  some (false, ())
  else
  (watershedlaw20_great x1 ([x0.span] : List (DSpan))).bind fun r2 =>
  (bif r2.1 then
  some (true, ())
  else
  (scheme_Right ([x0] : List (DScheme))).bind fun r3 =>
  (bif (!r3.1) then
  some (true, ())
  else
  (shares_Right x1).bind fun r4 =>
  (bif (!r4.1) then
  some (true, ())
  else
  (b8 x0.stage).bind fun u5 =>
  (loopM watershedlaw20_SchemeEnds_l1 ((x2, (), (), ([u5] : List (UInt8)), 0, ()), (x0, x1, (), ()))).bind fun b6 =>
  (match b6 with
  | .inl b7 =>
  some (b7.1.1, ())
  | .inr b9 =>
  (scheme_Over b9.2.1).bind fun r10 =>
  (bif r10.1 then
  some ((decide (((b9.1.2.1.length : Int) : Int) ≤ 6)), ())
  else
  some (false, ())))))))
noncomputable def watershedlaw20_SchemeEnds_ce : CE CT Try.prog where
  f := 4
  args := [.cod 10, .cod 8, .one (.bool)]
  hs := []
  res := .val (.one (.bool))
  outs := []
  m := fun d dh => watershedlaw20_SchemeEnds d.1 d.2.1 d.2.2.1
  ok := ce_ok mixedP Try.func4 (by kernel_rfl) (orcOf_ok watershedlaw20_SchemeEnds_tb) (dr := watershedlaw20_SchemeEnds_dr) (lps := lpsOf watershedlaw20_SchemeEnds_lt) (lps_fn (lps_of (n := 1) (by kernel_rfl) fun i hi => match i, hi with | 0, _ => lp_ok (E := watershedlaw20_SchemeEnds_e1) (by kernel_rfl) watershedlaw20_SchemeEnds_e1_ok)) (fun d dh => by kernel_rfl)
end Go.Proofs.Ytcamfdmgpmdmhaa
