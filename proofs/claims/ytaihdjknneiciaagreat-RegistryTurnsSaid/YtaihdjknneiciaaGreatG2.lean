/- The laws. -/
import Derived.Test.YtaihdjknneiciaaGreatG1
namespace Go.Proofs.YtaihdjknneiciaaGreat
noncomputable section
open Go.RowKit
set_option maxRecDepth 100000
set_option linter.unusedVariables false
def wl_RegistryTurns_dr : Nat → Nat → DrA
  | 27, n => bif Nat.beq n 16 then ⟨(List.range 11 ++ [12, 11, 13, 14, 15, 16, 17, 18, 19, 20, 21, 22, 23, 24, 25, 27, 26, 28, 29, 30, 31, 32, 33]), [[], [0], [0, 1], [0, 1, 2], [0, 1, 2, 3], (List.range 5), (List.range 6), (List.range 7), (List.range 8), (List.range 9), (List.range 10), (List.range 11), (List.range 10), (List.range 13), (List.range 14), (List.range 15), (List.range 16), (List.range 16), (List.range 18), (List.range 19), (List.range 20), (List.range 21), (List.range 21), (List.range 23), (List.range 24), (List.range 25), (List.range 26), (List.range 26), (List.range 26 ++ [27]), (List.range 29), (List.range 30), (List.range 31), (List.range 32), (List.range 33)], [26], [28], [10], false, []⟩ else bif Nat.beq n 17 then ⟨(List.range 11 ++ [12, 11, 13, 14, 15, 16, 17, 18, 19, 20, 21, 22, 23, 24, 25, 27, 26, 28, 29, 30, 31, 32, 33]), [[], [0], [0, 1], [0, 1, 2], [0, 1, 2, 3], (List.range 5), (List.range 6), (List.range 7), (List.range 8), (List.range 9), (List.range 10), (List.range 11), (List.range 10), (List.range 13), (List.range 14), (List.range 15), (List.range 16), (List.range 16), (List.range 18), (List.range 19), (List.range 20), (List.range 21), (List.range 21), (List.range 23), (List.range 24), (List.range 25), (List.range 26), (List.range 26), (List.range 26 ++ [27]), (List.range 29), (List.range 30), (List.range 31), (List.range 32), (List.range 33)], [26], [28], [10], false, []⟩ else bif Nat.beq n 28 then ⟨(List.range 11 ++ [12, 11, 13, 14, 15, 16, 17, 18, 19, 20, 21, 22, 23, 24, 25, 27, 26, 28, 29, 30, 31, 32, 33]), [[], [0], [0, 1], [0, 1, 2], [0, 1, 2, 3], (List.range 5), (List.range 6), (List.range 7), (List.range 8), (List.range 9), (List.range 10), (List.range 11), (List.range 10), (List.range 13), (List.range 14), (List.range 15), (List.range 16), (List.range 16), (List.range 18), (List.range 19), (List.range 20), (List.range 21), (List.range 21), (List.range 23), (List.range 24), (List.range 25), (List.range 26), (List.range 26), (List.range 26 ++ [27]), (List.range 29), (List.range 30), (List.range 31), (List.range 32), (List.range 33)], [26], [28], [22], false, []⟩ else ⟨(List.range 11 ++ [12, 11, 13, 14, 15, 16, 17, 18, 19, 20, 21, 22, 23, 24, 25, 27, 26, 28, 29, 30, 31, 32, 33]), [[], [0], [0, 1], [0, 1, 2], [0, 1, 2, 3], (List.range 5), (List.range 6), (List.range 7), (List.range 8), (List.range 9), (List.range 10), (List.range 11), (List.range 10), (List.range 13), (List.range 14), (List.range 15), (List.range 16), (List.range 16), (List.range 18), (List.range 19), (List.range 20), (List.range 21), (List.range 21), (List.range 23), (List.range 24), (List.range 25), (List.range 26), (List.range 26), (List.range 26 ++ [27]), (List.range 29), (List.range 30), (List.range 31), (List.range 32), (List.range 33)], [26], [28], [22], false, []⟩
  | 32, n => bif Nat.beq n 17 then ⟨[1, 5, 0, 3, 4, 2, 6, 7], [[], [], [1], [], [], [], (List.range 6), (List.range 7)], [0, 3, 4], [2], [10, 12, 15], false, []⟩ else bif Nat.beq n 18 then ⟨[1, 5, 0, 3, 4, 2, 6, 7], [[], [], [1], [], [], [], (List.range 6), (List.range 7)], [0, 3, 4], [2], [10, 12, 15, 16], false, []⟩ else bif Nat.beq n 19 then ⟨[1, 5, 0, 3, 4, 2, 6, 7], [[], [], [1], [], [], [], (List.range 6), (List.range 7)], [0, 3, 4], [2], [10, 12, 15, 16], false, []⟩ else bif Nat.beq n 20 then ⟨[1, 5, 0, 3, 4, 2, 6, 7], [[], [], [1], [], [], [], (List.range 6), (List.range 7)], [0, 3, 4], [2], [10, 12, 15, 16], false, []⟩ else bif Nat.beq n 21 then ⟨[1, 5, 0, 3, 4, 2, 6, 7], [[], [], [1], [], [], [], (List.range 6), (List.range 7)], [0, 3, 4], [2], [10, 12, 15, 16], false, []⟩ else bif Nat.beq n 22 then ⟨[1, 5, 0, 3, 4, 2, 6, 7], [[], [], [1], [], [], [], (List.range 6), (List.range 7)], [0, 3, 4], [2], [10, 12, 16], false, []⟩ else bif Nat.beq n 29 then ⟨[1, 5, 0, 3, 4, 2, 6, 7], [[], [], [1], [], [], [], (List.range 6), (List.range 7)], [0, 3, 4], [2], [22, 24, 27], false, []⟩ else bif Nat.beq n 30 then ⟨[1, 5, 0, 3, 4, 2, 6, 7], [[], [], [1], [], [], [], (List.range 6), (List.range 7)], [0, 3, 4], [2], [22, 24, 27, 28], false, []⟩ else bif Nat.beq n 31 then ⟨[1, 5, 0, 3, 4, 2, 6, 7], [[], [], [1], [], [], [], (List.range 6), (List.range 7)], [0, 3, 4], [2], [22, 24, 27, 28], false, []⟩ else bif Nat.beq n 32 then ⟨[1, 5, 0, 3, 4, 2, 6, 7], [[], [], [1], [], [], [], (List.range 6), (List.range 7)], [0, 3, 4], [2], [22, 24, 27, 28], false, []⟩ else bif Nat.beq n 33 then ⟨[1, 5, 0, 3, 4, 2, 6, 7], [[], [], [1], [], [], [], (List.range 6), (List.range 7)], [0, 3, 4], [2], [22, 24, 27, 28], false, []⟩ else ⟨[1, 5, 0, 3, 4, 2, 6, 7], [[], [], [1], [], [], [], (List.range 6), (List.range 7)], [0, 3, 4], [2], [22, 24, 28], false, []⟩
  | _, _ => ⟨[], [], [], [], [], false, []⟩
def wl_RegistryTurns_tb : List (CEp) := [wl_awake_ce, wl_light_ce, shares_First_ce, registry_New_ce, wk_Pick_ce, registry_Copy_ce, wire_NewWriter_ce, registry_Write_ce, wire_Done_ce, wire_NewReader_ce, registry_Read_ce, registry_Shares_ce, registry_Last_ce, registry_Scheme_ce, wl_do_ce, wl_whole_ce, wk_SameShares_ce, wl_turned_ce, wk_SameBytes_ce]
def wl_RegistryTurns_l1 (a : ((List (DDeed)) × (List (List UInt8)) × Unit × Int × Unit × Int × Unit) × ((Unit × Int × (List (DShare)) × Bool × Int × (List UInt8) × (List UInt8) × Int × Int × Int × Int × Int × Int × Unit) × ((List (DVerdict)) × Unit × Unit) × (List ((Int × Int) × Int)) × (Unit × Int × (List (DShare)) × Bool × Int × (List UInt8) × (List UInt8) × Int × Int × Int × Int × Int × Int × Unit) × ((List (DVerdict)) × Unit × Unit) × (List ((Int × Int) × Int)) × Unit × Unit × Unit)) : Option ((((List (DDeed)) × (List (List UInt8)) × Unit × Int × Unit × Int × Unit) × ((Unit × Int × (List (DShare)) × Bool × Int × (List UInt8) × (List UInt8) × Int × Int × Int × Int × Int × Int × Unit) × ((List (DVerdict)) × Unit × Unit) × (List ((Int × Int) × Int)) × (Unit × Int × (List (DShare)) × Bool × Int × (List UInt8) × (List UInt8) × Int × Int × Int × Int × Int × Int × Unit) × ((List (DVerdict)) × Unit × Unit) × (List ((Int × Int) × Int)) × Unit × Unit × Unit)) ⊕ (((Bool × Unit) × ((Unit × Int × (List (DShare)) × Bool × Int × (List UInt8) × (List UInt8) × Int × Int × Int × Int × Int × Int × Unit) × ((List (DVerdict)) × Unit × Unit) × (List ((Int × Int) × Int)) × Unit × Unit × Unit × Unit × Unit × Unit × Unit)) ⊕ (((List (DDeed)) × Unit × Int × Unit × Unit) × ((Unit × Int × (List (DShare)) × Bool × Int × (List UInt8) × (List UInt8) × Int × Int × Int × Int × Int × Int × Unit) × ((List (DVerdict)) × Unit × Unit) × (List ((Int × Int) × Int)) × Unit × Unit × Unit × Unit × Unit × (Unit × Int × (List (DShare)) × Bool × Int × (List UInt8) × (List UInt8) × Int × Int × Int × Int × Int × Int × Unit) × ((List (DVerdict)) × Unit × Unit) × (List ((Int × Int) × Int)) × Unit × Unit × Unit)))) :=
  (bif (decide ((a.1.2.2.2.2.2.1 : Int) < (a.1.1.length : Int))) then
  (bif (decide ((a.1.2.2.2.2.2.1 : Int) = a.1.2.2.2.1)) then
  (wire_NewWriter).bind fun r1 =>
  (registry_Write a.2.1 r1.2.1 a.2.2.1 a.2.2.2.1).bind fun r2 =>
  (wire_Done r2.2.2.1).bind fun r3 =>
  (wire_NewReader r3.1.1).bind fun r4 =>
  (registry_Read r4.2.1).bind fun r5 =>
  (bif (decide ((r3.1.2.1 : Int) ≠ 0)) then
  some (.inr (.inl ((false, ()), (r2.2.1, r2.2.2.2.1, r2.2.2.2.2.1, (), (), (), (), (), (), ()))))
  else
  (bif (!r5.1.2.1) then
  some (.inr (.inl ((false, ()), (r2.2.1, r2.2.2.2.1, r2.2.2.2.2.1, (), (), (), (), (), (), ()))))
  else
  (registry_Shares r2.2.1 r2.2.2.2.1 r2.2.2.2.2.1).bind fun r6 =>
  (registry_Last r6.2.1 r6.2.2.1 r6.2.2.2.1).bind fun r7 =>
  (registry_Scheme r7.2.1 r7.2.2.1 r7.2.2.2.1).bind fun r8 =>
  (getI a.1.1 a.1.2.2.2.2.2.1).bind fun e9 =>
  (wl_do e9 r8.2.1 r8.2.2.1 r8.2.2.2.1).bind fun r10 =>
  (bif (decide ((a.1.2.2.2.1 : Int) ≤ a.1.2.2.2.2.2.1)) then
  (getI a.1.1 a.1.2.2.2.2.2.1).bind fun e11 =>
  (wl_do e11 r5.2.2.2.1 r5.2.2.2.2.1 r5.2.2.2.2.2.1).bind fun r12 =>
  (bif (decide ((r12.1.1 : Int) ≠ r10.1.1)) then
  some (.inr (.inl ((false, ()), (r10.2.1, r10.2.2.1, r10.2.2.2.1, (), (), (), (), (), (), ()))))
  else
  (bif (decide ((r10.1.2.1 : Int) ≠ r12.1.2.1)) then
  some (.inr (.inl ((false, ()), (r10.2.1, r10.2.2.1, r10.2.2.2.1, (), (), (), (), (), (), ()))))
  else
  (registry_Scheme r10.2.1 r10.2.2.1 r10.2.2.2.1).bind fun r13 =>
  (wl_whole r13.2.1 r13.2.2.1 r13.2.2.2.1).bind fun r14 =>
  (bif (!r14.1) then
  some (.inr (.inl ((false, ()), (r14.2.1, r14.2.2.1, r14.2.2.2.1, (), (), (), (), (), (), ()))))
  else
  (bif (decide ((r10.1.2.1 : Int) ≠ 0)) then
  (bif (decide ((r10.1.1 : Int) ≠ 0)) then
  some (.inr (.inl ((false, ()), (r14.2.1, r14.2.2.1, r14.2.2.2.1, (), (), (), (), (), (), ()))))
  else
  (registry_Last r14.2.1 r14.2.2.1 r14.2.2.2.1).bind fun r15 =>
  (bif (decide ((r15.1 : Int) ≠ r7.1)) then
  some (.inr (.inl ((false, ()), (r15.2.1, r15.2.2.1, r15.2.2.2.1, (), (), (), (), (), (), ()))))
  else
  (bif (decide (r13.1.2.1 ≠ r8.1.2.1)) then
  some (.inr (.inl ((false, ()), (r15.2.1, r15.2.2.1, r15.2.2.2.1, (), (), (), (), (), (), ()))))
  else
  (bif (!(decide ((r8.1.1.num : Int) = r13.1.1.num) && (decide (r8.1.1.span.lo = r13.1.1.span.lo) && (decide (r8.1.1.span.hi = r13.1.1.span.hi) && (decide ((r8.1.1.from_ : Int) = r13.1.1.from_) && (decide ((r8.1.1.to_ : Int) = r13.1.1.to_) && (decide ((r8.1.1.epoch : Int) = r13.1.1.epoch) && (decide ((r8.1.1.under : Int) = r13.1.1.under) && (decide ((r8.1.1.stage : Int) = r13.1.1.stage) && true))))))))) then
  some (.inr (.inl ((false, ()), (r15.2.1, r15.2.2.1, r15.2.2.2.1, (), (), (), (), (), (), ()))))
  else
  (registry_Shares r15.2.1 r15.2.2.1 r15.2.2.2.1).bind fun r16 =>
  (wk_SameShares r6.1 r16.1).bind fun r17 =>
  (bif (!r17.1) then
  some (.inr (.inl ((false, ()), (r16.2.1, r16.2.2.1, r16.2.2.2.1, (), (), (), (), (), (), ()))))
  else
  (getI a.1.1 a.1.2.2.2.2.2.1).bind fun e18 =>
  (wk_Pick e18.kind 8).bind fun r19 =>
  (bif (decide ((r19.1 : Int) < 2)) then
  (bif (decide ((r10.1.2.1 : Int) = 0)) then
  (bif (decide ((r10.1.1 : Int) ≠ (IntKind.i64.wrap (r7.1 + 1)))) then
  some (.inr (.inl ((false, ()), (r16.2.1, r16.2.2.1, r16.2.2.2.1, (), (), (), (), (), (), ()))))
  else
  (bif r8.1.2.1 then
  some (.inr (.inl ((false, ()), (r16.2.1, r16.2.2.1, r16.2.2.2.1, (), (), (), (), (), (), ()))))
  else
  (registry_Last r16.2.1 r16.2.2.1 r16.2.2.2.1).bind fun r20 =>
  (bif (decide ((r20.1 : Int) ≠ r10.1.1)) then
  some (.inr (.inl ((false, ()), (r20.2.1, r20.2.2.1, r20.2.2.2.1, (), (), (), (), (), (), ()))))
  else
  (bif (!(decide ((r10.1.2.1 : Int) = 0))) then
  (registry_Last r20.2.1 r20.2.2.1 r20.2.2.2.1).bind fun r21 =>
  (bif (decide ((r21.1 : Int) ≠ r7.1)) then
  some (.inr (.inl ((false, ()), (r21.2.1, r21.2.2.1, r21.2.2.2.1, (), (), (), (), (), (), ()))))
  else
  (registry_Shares r21.2.1 r21.2.2.1 r21.2.2.2.1).bind fun r22 =>
  (wl_turned r6.1 r22.1 r8.1.1 r13.1.1 a.1.2.1).bind fun r23 =>
  (bif (!r23.1) then
  some (.inr (.inl ((false, ()), (r22.2.1, r22.2.2.1, r22.2.2.2.1, (), (), (), (), (), (), ()))))
  else
  some (.inl ((a.1.1, a.1.2.1, (), a.1.2.2.2.1, (), (IntKind.i64.wrap (a.1.2.2.2.2.2.1 + 1)), ()), (r22.2.1, r22.2.2.1, r22.2.2.2.1, r12.2.1, r12.2.2.1, r12.2.2.2.1, (), (), ())))))
  else
  (registry_Shares r20.2.1 r20.2.2.1 r20.2.2.2.1).bind fun r24 =>
  (wl_turned r6.1 r24.1 r8.1.1 r13.1.1 a.1.2.1).bind fun r25 =>
  (bif (!r25.1) then
  some (.inr (.inl ((false, ()), (r24.2.1, r24.2.2.1, r24.2.2.2.1, (), (), (), (), (), (), ()))))
  else
  some (.inl ((a.1.1, a.1.2.1, (), a.1.2.2.2.1, (), (IntKind.i64.wrap (a.1.2.2.2.2.2.1 + 1)), ()), (r24.2.1, r24.2.2.1, r24.2.2.2.1, r12.2.1, r12.2.2.1, r12.2.2.2.1, (), (), ()))))))))
  else
  (bif (!(decide ((r10.1.2.1 : Int) = 0))) then
  (registry_Last r16.2.1 r16.2.2.1 r16.2.2.2.1).bind fun r26 =>
  (bif (decide ((r26.1 : Int) ≠ r7.1)) then
  some (.inr (.inl ((false, ()), (r26.2.1, r26.2.2.1, r26.2.2.2.1, (), (), (), (), (), (), ()))))
  else
  (registry_Shares r26.2.1 r26.2.2.1 r26.2.2.2.1).bind fun r27 =>
  (wl_turned r6.1 r27.1 r8.1.1 r13.1.1 a.1.2.1).bind fun r28 =>
  (bif (!r28.1) then
  some (.inr (.inl ((false, ()), (r27.2.1, r27.2.2.1, r27.2.2.2.1, (), (), (), (), (), (), ()))))
  else
  some (.inl ((a.1.1, a.1.2.1, (), a.1.2.2.2.1, (), (IntKind.i64.wrap (a.1.2.2.2.2.2.1 + 1)), ()), (r27.2.1, r27.2.2.1, r27.2.2.2.1, r12.2.1, r12.2.2.1, r12.2.2.2.1, (), (), ())))))
  else
  (registry_Shares r16.2.1 r16.2.2.1 r16.2.2.2.1).bind fun r29 =>
  (wl_turned r6.1 r29.1 r8.1.1 r13.1.1 a.1.2.1).bind fun r30 =>
  (bif (!r30.1) then
  some (.inr (.inl ((false, ()), (r29.2.1, r29.2.2.1, r29.2.2.2.1, (), (), (), (), (), (), ()))))
  else
  some (.inl ((a.1.1, a.1.2.1, (), a.1.2.2.2.1, (), (IntKind.i64.wrap (a.1.2.2.2.2.2.1 + 1)), ()), (r29.2.1, r29.2.2.1, r29.2.2.2.1, r12.2.1, r12.2.2.1, r12.2.2.2.1, (), (), ()))))))
  else
  (registry_Last r16.2.1 r16.2.2.1 r16.2.2.2.1).bind fun r31 =>
  (bif (decide ((r31.1 : Int) ≠ r7.1)) then
  some (.inr (.inl ((false, ()), (r31.2.1, r31.2.2.1, r31.2.2.2.1, (), (), (), (), (), (), ()))))
  else
  (registry_Shares r31.2.1 r31.2.2.1 r31.2.2.2.1).bind fun r32 =>
  (wl_turned r6.1 r32.1 r8.1.1 r13.1.1 a.1.2.1).bind fun r33 =>
  (bif (!r33.1) then
  some (.inr (.inl ((false, ()), (r32.2.1, r32.2.2.1, r32.2.2.2.1, (), (), (), (), (), (), ()))))
  else
  some (.inl ((a.1.1, a.1.2.1, (), a.1.2.2.2.1, (), (IntKind.i64.wrap (a.1.2.2.2.2.2.1 + 1)), ()), (r32.2.1, r32.2.2.1, r32.2.2.2.1, r12.2.1, r12.2.2.1, r12.2.2.2.1, (), (), ())))))))))))
  else
  (getI a.1.1 a.1.2.2.2.2.2.1).bind fun e34 =>
  (wk_Pick e34.kind 8).bind fun r35 =>
  (bif (decide ((r35.1 : Int) < 2)) then
  (bif (decide ((r10.1.2.1 : Int) = 0)) then
  (bif (decide ((r10.1.1 : Int) ≠ (IntKind.i64.wrap (r7.1 + 1)))) then
  some (.inr (.inl ((false, ()), (r14.2.1, r14.2.2.1, r14.2.2.2.1, (), (), (), (), (), (), ()))))
  else
  (bif r8.1.2.1 then
  some (.inr (.inl ((false, ()), (r14.2.1, r14.2.2.1, r14.2.2.2.1, (), (), (), (), (), (), ()))))
  else
  (registry_Last r14.2.1 r14.2.2.1 r14.2.2.2.1).bind fun r36 =>
  (bif (decide ((r36.1 : Int) ≠ r10.1.1)) then
  some (.inr (.inl ((false, ()), (r36.2.1, r36.2.2.1, r36.2.2.2.1, (), (), (), (), (), (), ()))))
  else
  (bif (!(decide ((r10.1.2.1 : Int) = 0))) then
  (registry_Last r36.2.1 r36.2.2.1 r36.2.2.2.1).bind fun r37 =>
  (bif (decide ((r37.1 : Int) ≠ r7.1)) then
  some (.inr (.inl ((false, ()), (r37.2.1, r37.2.2.1, r37.2.2.2.1, (), (), (), (), (), (), ()))))
  else
  (registry_Shares r37.2.1 r37.2.2.1 r37.2.2.2.1).bind fun r38 =>
  (wl_turned r6.1 r38.1 r8.1.1 r13.1.1 a.1.2.1).bind fun r39 =>
  (bif (!r39.1) then
  some (.inr (.inl ((false, ()), (r38.2.1, r38.2.2.1, r38.2.2.2.1, (), (), (), (), (), (), ()))))
  else
  some (.inl ((a.1.1, a.1.2.1, (), a.1.2.2.2.1, (), (IntKind.i64.wrap (a.1.2.2.2.2.2.1 + 1)), ()), (r38.2.1, r38.2.2.1, r38.2.2.2.1, r12.2.1, r12.2.2.1, r12.2.2.2.1, (), (), ())))))
  else
  (registry_Shares r36.2.1 r36.2.2.1 r36.2.2.2.1).bind fun r40 =>
  (wl_turned r6.1 r40.1 r8.1.1 r13.1.1 a.1.2.1).bind fun r41 =>
  (bif (!r41.1) then
  some (.inr (.inl ((false, ()), (r40.2.1, r40.2.2.1, r40.2.2.2.1, (), (), (), (), (), (), ()))))
  else
  some (.inl ((a.1.1, a.1.2.1, (), a.1.2.2.2.1, (), (IntKind.i64.wrap (a.1.2.2.2.2.2.1 + 1)), ()), (r40.2.1, r40.2.2.1, r40.2.2.2.1, r12.2.1, r12.2.2.1, r12.2.2.2.1, (), (), ()))))))))
  else
  (bif (!(decide ((r10.1.2.1 : Int) = 0))) then
  (registry_Last r14.2.1 r14.2.2.1 r14.2.2.2.1).bind fun r42 =>
  (bif (decide ((r42.1 : Int) ≠ r7.1)) then
  some (.inr (.inl ((false, ()), (r42.2.1, r42.2.2.1, r42.2.2.2.1, (), (), (), (), (), (), ()))))
  else
  (registry_Shares r42.2.1 r42.2.2.1 r42.2.2.2.1).bind fun r43 =>
  (wl_turned r6.1 r43.1 r8.1.1 r13.1.1 a.1.2.1).bind fun r44 =>
  (bif (!r44.1) then
  some (.inr (.inl ((false, ()), (r43.2.1, r43.2.2.1, r43.2.2.2.1, (), (), (), (), (), (), ()))))
  else
  some (.inl ((a.1.1, a.1.2.1, (), a.1.2.2.2.1, (), (IntKind.i64.wrap (a.1.2.2.2.2.2.1 + 1)), ()), (r43.2.1, r43.2.2.1, r43.2.2.2.1, r12.2.1, r12.2.2.1, r12.2.2.2.1, (), (), ())))))
  else
  (registry_Shares r14.2.1 r14.2.2.1 r14.2.2.2.1).bind fun r45 =>
  (wl_turned r6.1 r45.1 r8.1.1 r13.1.1 a.1.2.1).bind fun r46 =>
  (bif (!r46.1) then
  some (.inr (.inl ((false, ()), (r45.2.1, r45.2.2.1, r45.2.2.2.1, (), (), (), (), (), (), ()))))
  else
  some (.inl ((a.1.1, a.1.2.1, (), a.1.2.2.2.1, (), (IntKind.i64.wrap (a.1.2.2.2.2.2.1 + 1)), ()), (r45.2.1, r45.2.2.1, r45.2.2.2.1, r12.2.1, r12.2.2.1, r12.2.2.2.1, (), (), ()))))))
  else
  (registry_Last r14.2.1 r14.2.2.1 r14.2.2.2.1).bind fun r47 =>
  (bif (decide ((r47.1 : Int) ≠ r7.1)) then
  some (.inr (.inl ((false, ()), (r47.2.1, r47.2.2.1, r47.2.2.2.1, (), (), (), (), (), (), ()))))
  else
  (registry_Shares r47.2.1 r47.2.2.1 r47.2.2.2.1).bind fun r48 =>
  (wl_turned r6.1 r48.1 r8.1.1 r13.1.1 a.1.2.1).bind fun r49 =>
  (bif (!r49.1) then
  some (.inr (.inl ((false, ()), (r48.2.1, r48.2.2.1, r48.2.2.2.1, (), (), (), (), (), (), ()))))
  else
  some (.inl ((a.1.1, a.1.2.1, (), a.1.2.2.2.1, (), (IntKind.i64.wrap (a.1.2.2.2.2.2.1 + 1)), ()), (r48.2.1, r48.2.2.1, r48.2.2.2.1, r12.2.1, r12.2.2.1, r12.2.2.2.1, (), (), ()))))))))))
  else
  (registry_Scheme r10.2.1 r10.2.2.1 r10.2.2.2.1).bind fun r50 =>
  (wl_whole r50.2.1 r50.2.2.1 r50.2.2.2.1).bind fun r51 =>
  (bif (!r51.1) then
  some (.inr (.inl ((false, ()), (r51.2.1, r51.2.2.1, r51.2.2.2.1, (), (), (), (), (), (), ()))))
  else
  (bif (decide ((r10.1.2.1 : Int) ≠ 0)) then
  (bif (decide ((r10.1.1 : Int) ≠ 0)) then
  some (.inr (.inl ((false, ()), (r51.2.1, r51.2.2.1, r51.2.2.2.1, (), (), (), (), (), (), ()))))
  else
  (registry_Last r51.2.1 r51.2.2.1 r51.2.2.2.1).bind fun r52 =>
  (bif (decide ((r52.1 : Int) ≠ r7.1)) then
  some (.inr (.inl ((false, ()), (r52.2.1, r52.2.2.1, r52.2.2.2.1, (), (), (), (), (), (), ()))))
  else
  (bif (decide (r50.1.2.1 ≠ r8.1.2.1)) then
  some (.inr (.inl ((false, ()), (r52.2.1, r52.2.2.1, r52.2.2.2.1, (), (), (), (), (), (), ()))))
  else
  (bif (!(decide ((r8.1.1.num : Int) = r50.1.1.num) && (decide (r8.1.1.span.lo = r50.1.1.span.lo) && (decide (r8.1.1.span.hi = r50.1.1.span.hi) && (decide ((r8.1.1.from_ : Int) = r50.1.1.from_) && (decide ((r8.1.1.to_ : Int) = r50.1.1.to_) && (decide ((r8.1.1.epoch : Int) = r50.1.1.epoch) && (decide ((r8.1.1.under : Int) = r50.1.1.under) && (decide ((r8.1.1.stage : Int) = r50.1.1.stage) && true))))))))) then
  some (.inr (.inl ((false, ()), (r52.2.1, r52.2.2.1, r52.2.2.2.1, (), (), (), (), (), (), ()))))
  else
  (registry_Shares r52.2.1 r52.2.2.1 r52.2.2.2.1).bind fun r53 =>
  (wk_SameShares r6.1 r53.1).bind fun r54 =>
  (bif (!r54.1) then
  some (.inr (.inl ((false, ()), (r53.2.1, r53.2.2.1, r53.2.2.2.1, (), (), (), (), (), (), ()))))
  else
  (getI a.1.1 a.1.2.2.2.2.2.1).bind fun e55 =>
  (wk_Pick e55.kind 8).bind fun r56 =>
  (bif (decide ((r56.1 : Int) < 2)) then
  (bif (decide ((r10.1.2.1 : Int) = 0)) then
  (bif (decide ((r10.1.1 : Int) ≠ (IntKind.i64.wrap (r7.1 + 1)))) then
  some (.inr (.inl ((false, ()), (r53.2.1, r53.2.2.1, r53.2.2.2.1, (), (), (), (), (), (), ()))))
  else
  (bif r8.1.2.1 then
  some (.inr (.inl ((false, ()), (r53.2.1, r53.2.2.1, r53.2.2.2.1, (), (), (), (), (), (), ()))))
  else
  (registry_Last r53.2.1 r53.2.2.1 r53.2.2.2.1).bind fun r57 =>
  (bif (decide ((r57.1 : Int) ≠ r10.1.1)) then
  some (.inr (.inl ((false, ()), (r57.2.1, r57.2.2.1, r57.2.2.2.1, (), (), (), (), (), (), ()))))
  else
  (bif (!(decide ((r10.1.2.1 : Int) = 0))) then
  (registry_Last r57.2.1 r57.2.2.1 r57.2.2.2.1).bind fun r58 =>
  (bif (decide ((r58.1 : Int) ≠ r7.1)) then
  some (.inr (.inl ((false, ()), (r58.2.1, r58.2.2.1, r58.2.2.2.1, (), (), (), (), (), (), ()))))
  else
  (registry_Shares r58.2.1 r58.2.2.1 r58.2.2.2.1).bind fun r59 =>
  (wl_turned r6.1 r59.1 r8.1.1 r50.1.1 a.1.2.1).bind fun r60 =>
  (bif (!r60.1) then
  some (.inr (.inl ((false, ()), (r59.2.1, r59.2.2.1, r59.2.2.2.1, (), (), (), (), (), (), ()))))
  else
  some (.inl ((a.1.1, a.1.2.1, (), a.1.2.2.2.1, (), (IntKind.i64.wrap (a.1.2.2.2.2.2.1 + 1)), ()), (r59.2.1, r59.2.2.1, r59.2.2.2.1, r5.2.2.2.1, r5.2.2.2.2.1, r5.2.2.2.2.2.1, (), (), ())))))
  else
  (registry_Shares r57.2.1 r57.2.2.1 r57.2.2.2.1).bind fun r61 =>
  (wl_turned r6.1 r61.1 r8.1.1 r50.1.1 a.1.2.1).bind fun r62 =>
  (bif (!r62.1) then
  some (.inr (.inl ((false, ()), (r61.2.1, r61.2.2.1, r61.2.2.2.1, (), (), (), (), (), (), ()))))
  else
  some (.inl ((a.1.1, a.1.2.1, (), a.1.2.2.2.1, (), (IntKind.i64.wrap (a.1.2.2.2.2.2.1 + 1)), ()), (r61.2.1, r61.2.2.1, r61.2.2.2.1, r5.2.2.2.1, r5.2.2.2.2.1, r5.2.2.2.2.2.1, (), (), ()))))))))
  else
  (bif (!(decide ((r10.1.2.1 : Int) = 0))) then
  (registry_Last r53.2.1 r53.2.2.1 r53.2.2.2.1).bind fun r63 =>
  (bif (decide ((r63.1 : Int) ≠ r7.1)) then
  some (.inr (.inl ((false, ()), (r63.2.1, r63.2.2.1, r63.2.2.2.1, (), (), (), (), (), (), ()))))
  else
  (registry_Shares r63.2.1 r63.2.2.1 r63.2.2.2.1).bind fun r64 =>
  (wl_turned r6.1 r64.1 r8.1.1 r50.1.1 a.1.2.1).bind fun r65 =>
  (bif (!r65.1) then
  some (.inr (.inl ((false, ()), (r64.2.1, r64.2.2.1, r64.2.2.2.1, (), (), (), (), (), (), ()))))
  else
  some (.inl ((a.1.1, a.1.2.1, (), a.1.2.2.2.1, (), (IntKind.i64.wrap (a.1.2.2.2.2.2.1 + 1)), ()), (r64.2.1, r64.2.2.1, r64.2.2.2.1, r5.2.2.2.1, r5.2.2.2.2.1, r5.2.2.2.2.2.1, (), (), ())))))
  else
  (registry_Shares r53.2.1 r53.2.2.1 r53.2.2.2.1).bind fun r66 =>
  (wl_turned r6.1 r66.1 r8.1.1 r50.1.1 a.1.2.1).bind fun r67 =>
  (bif (!r67.1) then
  some (.inr (.inl ((false, ()), (r66.2.1, r66.2.2.1, r66.2.2.2.1, (), (), (), (), (), (), ()))))
  else
  some (.inl ((a.1.1, a.1.2.1, (), a.1.2.2.2.1, (), (IntKind.i64.wrap (a.1.2.2.2.2.2.1 + 1)), ()), (r66.2.1, r66.2.2.1, r66.2.2.2.1, r5.2.2.2.1, r5.2.2.2.2.1, r5.2.2.2.2.2.1, (), (), ()))))))
  else
  (registry_Last r53.2.1 r53.2.2.1 r53.2.2.2.1).bind fun r68 =>
  (bif (decide ((r68.1 : Int) ≠ r7.1)) then
  some (.inr (.inl ((false, ()), (r68.2.1, r68.2.2.1, r68.2.2.2.1, (), (), (), (), (), (), ()))))
  else
  (registry_Shares r68.2.1 r68.2.2.1 r68.2.2.2.1).bind fun r69 =>
  (wl_turned r6.1 r69.1 r8.1.1 r50.1.1 a.1.2.1).bind fun r70 =>
  (bif (!r70.1) then
  some (.inr (.inl ((false, ()), (r69.2.1, r69.2.2.1, r69.2.2.2.1, (), (), (), (), (), (), ()))))
  else
  some (.inl ((a.1.1, a.1.2.1, (), a.1.2.2.2.1, (), (IntKind.i64.wrap (a.1.2.2.2.2.2.1 + 1)), ()), (r69.2.1, r69.2.2.1, r69.2.2.2.1, r5.2.2.2.1, r5.2.2.2.2.1, r5.2.2.2.2.2.1, (), (), ())))))))))))
  else
  (getI a.1.1 a.1.2.2.2.2.2.1).bind fun e71 =>
  (wk_Pick e71.kind 8).bind fun r72 =>
  (bif (decide ((r72.1 : Int) < 2)) then
  (bif (decide ((r10.1.2.1 : Int) = 0)) then
  (bif (decide ((r10.1.1 : Int) ≠ (IntKind.i64.wrap (r7.1 + 1)))) then
  some (.inr (.inl ((false, ()), (r51.2.1, r51.2.2.1, r51.2.2.2.1, (), (), (), (), (), (), ()))))
  else
  (bif r8.1.2.1 then
  some (.inr (.inl ((false, ()), (r51.2.1, r51.2.2.1, r51.2.2.2.1, (), (), (), (), (), (), ()))))
  else
  (registry_Last r51.2.1 r51.2.2.1 r51.2.2.2.1).bind fun r73 =>
  (bif (decide ((r73.1 : Int) ≠ r10.1.1)) then
  some (.inr (.inl ((false, ()), (r73.2.1, r73.2.2.1, r73.2.2.2.1, (), (), (), (), (), (), ()))))
  else
  (bif (!(decide ((r10.1.2.1 : Int) = 0))) then
  (registry_Last r73.2.1 r73.2.2.1 r73.2.2.2.1).bind fun r74 =>
  (bif (decide ((r74.1 : Int) ≠ r7.1)) then
  some (.inr (.inl ((false, ()), (r74.2.1, r74.2.2.1, r74.2.2.2.1, (), (), (), (), (), (), ()))))
  else
  (registry_Shares r74.2.1 r74.2.2.1 r74.2.2.2.1).bind fun r75 =>
  (wl_turned r6.1 r75.1 r8.1.1 r50.1.1 a.1.2.1).bind fun r76 =>
  (bif (!r76.1) then
  some (.inr (.inl ((false, ()), (r75.2.1, r75.2.2.1, r75.2.2.2.1, (), (), (), (), (), (), ()))))
  else
  some (.inl ((a.1.1, a.1.2.1, (), a.1.2.2.2.1, (), (IntKind.i64.wrap (a.1.2.2.2.2.2.1 + 1)), ()), (r75.2.1, r75.2.2.1, r75.2.2.2.1, r5.2.2.2.1, r5.2.2.2.2.1, r5.2.2.2.2.2.1, (), (), ())))))
  else
  (registry_Shares r73.2.1 r73.2.2.1 r73.2.2.2.1).bind fun r77 =>
  (wl_turned r6.1 r77.1 r8.1.1 r50.1.1 a.1.2.1).bind fun r78 =>
  (bif (!r78.1) then
  some (.inr (.inl ((false, ()), (r77.2.1, r77.2.2.1, r77.2.2.2.1, (), (), (), (), (), (), ()))))
  else
  some (.inl ((a.1.1, a.1.2.1, (), a.1.2.2.2.1, (), (IntKind.i64.wrap (a.1.2.2.2.2.2.1 + 1)), ()), (r77.2.1, r77.2.2.1, r77.2.2.2.1, r5.2.2.2.1, r5.2.2.2.2.1, r5.2.2.2.2.2.1, (), (), ()))))))))
  else
  (bif (!(decide ((r10.1.2.1 : Int) = 0))) then
  (registry_Last r51.2.1 r51.2.2.1 r51.2.2.2.1).bind fun r79 =>
  (bif (decide ((r79.1 : Int) ≠ r7.1)) then
  some (.inr (.inl ((false, ()), (r79.2.1, r79.2.2.1, r79.2.2.2.1, (), (), (), (), (), (), ()))))
  else
  (registry_Shares r79.2.1 r79.2.2.1 r79.2.2.2.1).bind fun r80 =>
  (wl_turned r6.1 r80.1 r8.1.1 r50.1.1 a.1.2.1).bind fun r81 =>
  (bif (!r81.1) then
  some (.inr (.inl ((false, ()), (r80.2.1, r80.2.2.1, r80.2.2.2.1, (), (), (), (), (), (), ()))))
  else
  some (.inl ((a.1.1, a.1.2.1, (), a.1.2.2.2.1, (), (IntKind.i64.wrap (a.1.2.2.2.2.2.1 + 1)), ()), (r80.2.1, r80.2.2.1, r80.2.2.2.1, r5.2.2.2.1, r5.2.2.2.2.1, r5.2.2.2.2.2.1, (), (), ())))))
  else
  (registry_Shares r51.2.1 r51.2.2.1 r51.2.2.2.1).bind fun r82 =>
  (wl_turned r6.1 r82.1 r8.1.1 r50.1.1 a.1.2.1).bind fun r83 =>
  (bif (!r83.1) then
  some (.inr (.inl ((false, ()), (r82.2.1, r82.2.2.1, r82.2.2.2.1, (), (), (), (), (), (), ()))))
  else
  some (.inl ((a.1.1, a.1.2.1, (), a.1.2.2.2.1, (), (IntKind.i64.wrap (a.1.2.2.2.2.2.1 + 1)), ()), (r82.2.1, r82.2.2.1, r82.2.2.2.1, r5.2.2.2.1, r5.2.2.2.2.1, r5.2.2.2.2.2.1, (), (), ()))))))
  else
  (registry_Last r51.2.1 r51.2.2.1 r51.2.2.2.1).bind fun r84 =>
  (bif (decide ((r84.1 : Int) ≠ r7.1)) then
  some (.inr (.inl ((false, ()), (r84.2.1, r84.2.2.1, r84.2.2.2.1, (), (), (), (), (), (), ()))))
  else
  (registry_Shares r84.2.1 r84.2.2.1 r84.2.2.2.1).bind fun r85 =>
  (wl_turned r6.1 r85.1 r8.1.1 r50.1.1 a.1.2.1).bind fun r86 =>
  (bif (!r86.1) then
  some (.inr (.inl ((false, ()), (r85.2.1, r85.2.2.1, r85.2.2.2.1, (), (), (), (), (), (), ()))))
  else
  some (.inl ((a.1.1, a.1.2.1, (), a.1.2.2.2.1, (), (IntKind.i64.wrap (a.1.2.2.2.2.2.1 + 1)), ()), (r85.2.1, r85.2.2.1, r85.2.2.2.1, r5.2.2.2.1, r5.2.2.2.2.1, r5.2.2.2.2.2.1, (), (), ())))))))))))
  else
  (registry_Shares a.2.1 a.2.2.1 a.2.2.2.1).bind fun r87 =>
  (registry_Last r87.2.1 r87.2.2.1 r87.2.2.2.1).bind fun r88 =>
  (registry_Scheme r88.2.1 r88.2.2.1 r88.2.2.2.1).bind fun r89 =>
  (getI a.1.1 a.1.2.2.2.2.2.1).bind fun e90 =>
  (wl_do e90 r89.2.1 r89.2.2.1 r89.2.2.2.1).bind fun r91 =>
  (bif (decide ((a.1.2.2.2.1 : Int) ≤ a.1.2.2.2.2.2.1)) then
  (getI a.1.1 a.1.2.2.2.2.2.1).bind fun e92 =>
  (wl_do e92 a.2.2.2.2.1 a.2.2.2.2.2.1 a.2.2.2.2.2.2.1).bind fun r93 =>
  (bif (decide ((r93.1.1 : Int) ≠ r91.1.1)) then
  some (.inr (.inl ((false, ()), (r91.2.1, r91.2.2.1, r91.2.2.2.1, (), (), (), (), (), (), ()))))
  else
  (bif (decide ((r91.1.2.1 : Int) ≠ r93.1.2.1)) then
  some (.inr (.inl ((false, ()), (r91.2.1, r91.2.2.1, r91.2.2.2.1, (), (), (), (), (), (), ()))))
  else
  (registry_Scheme r91.2.1 r91.2.2.1 r91.2.2.2.1).bind fun r94 =>
  (wl_whole r94.2.1 r94.2.2.1 r94.2.2.2.1).bind fun r95 =>
  (bif (!r95.1) then
  some (.inr (.inl ((false, ()), (r95.2.1, r95.2.2.1, r95.2.2.2.1, (), (), (), (), (), (), ()))))
  else
  (bif (decide ((r91.1.2.1 : Int) ≠ 0)) then
  (bif (decide ((r91.1.1 : Int) ≠ 0)) then
  some (.inr (.inl ((false, ()), (r95.2.1, r95.2.2.1, r95.2.2.2.1, (), (), (), (), (), (), ()))))
  else
  (registry_Last r95.2.1 r95.2.2.1 r95.2.2.2.1).bind fun r96 =>
  (bif (decide ((r96.1 : Int) ≠ r88.1)) then
  some (.inr (.inl ((false, ()), (r96.2.1, r96.2.2.1, r96.2.2.2.1, (), (), (), (), (), (), ()))))
  else
  (bif (decide (r94.1.2.1 ≠ r89.1.2.1)) then
  some (.inr (.inl ((false, ()), (r96.2.1, r96.2.2.1, r96.2.2.2.1, (), (), (), (), (), (), ()))))
  else
  (bif (!(decide ((r89.1.1.num : Int) = r94.1.1.num) && (decide (r89.1.1.span.lo = r94.1.1.span.lo) && (decide (r89.1.1.span.hi = r94.1.1.span.hi) && (decide ((r89.1.1.from_ : Int) = r94.1.1.from_) && (decide ((r89.1.1.to_ : Int) = r94.1.1.to_) && (decide ((r89.1.1.epoch : Int) = r94.1.1.epoch) && (decide ((r89.1.1.under : Int) = r94.1.1.under) && (decide ((r89.1.1.stage : Int) = r94.1.1.stage) && true))))))))) then
  some (.inr (.inl ((false, ()), (r96.2.1, r96.2.2.1, r96.2.2.2.1, (), (), (), (), (), (), ()))))
  else
  (registry_Shares r96.2.1 r96.2.2.1 r96.2.2.2.1).bind fun r97 =>
  (wk_SameShares r87.1 r97.1).bind fun r98 =>
  (bif (!r98.1) then
  some (.inr (.inl ((false, ()), (r97.2.1, r97.2.2.1, r97.2.2.2.1, (), (), (), (), (), (), ()))))
  else
  (getI a.1.1 a.1.2.2.2.2.2.1).bind fun e99 =>
  (wk_Pick e99.kind 8).bind fun r100 =>
  (bif (decide ((r100.1 : Int) < 2)) then
  (bif (decide ((r91.1.2.1 : Int) = 0)) then
  (bif (decide ((r91.1.1 : Int) ≠ (IntKind.i64.wrap (r88.1 + 1)))) then
  some (.inr (.inl ((false, ()), (r97.2.1, r97.2.2.1, r97.2.2.2.1, (), (), (), (), (), (), ()))))
  else
  (bif r89.1.2.1 then
  some (.inr (.inl ((false, ()), (r97.2.1, r97.2.2.1, r97.2.2.2.1, (), (), (), (), (), (), ()))))
  else
  (registry_Last r97.2.1 r97.2.2.1 r97.2.2.2.1).bind fun r101 =>
  (bif (decide ((r101.1 : Int) ≠ r91.1.1)) then
  some (.inr (.inl ((false, ()), (r101.2.1, r101.2.2.1, r101.2.2.2.1, (), (), (), (), (), (), ()))))
  else
  (bif (!(decide ((r91.1.2.1 : Int) = 0))) then
  (registry_Last r101.2.1 r101.2.2.1 r101.2.2.2.1).bind fun r102 =>
  (bif (decide ((r102.1 : Int) ≠ r88.1)) then
  some (.inr (.inl ((false, ()), (r102.2.1, r102.2.2.1, r102.2.2.2.1, (), (), (), (), (), (), ()))))
  else
  (registry_Shares r102.2.1 r102.2.2.1 r102.2.2.2.1).bind fun r103 =>
  (wl_turned r87.1 r103.1 r89.1.1 r94.1.1 a.1.2.1).bind fun r104 =>
  (bif (!r104.1) then
  some (.inr (.inl ((false, ()), (r103.2.1, r103.2.2.1, r103.2.2.2.1, (), (), (), (), (), (), ()))))
  else
  some (.inl ((a.1.1, a.1.2.1, (), a.1.2.2.2.1, (), (IntKind.i64.wrap (a.1.2.2.2.2.2.1 + 1)), ()), (r103.2.1, r103.2.2.1, r103.2.2.2.1, r93.2.1, r93.2.2.1, r93.2.2.2.1, (), (), ())))))
  else
  (registry_Shares r101.2.1 r101.2.2.1 r101.2.2.2.1).bind fun r105 =>
  (wl_turned r87.1 r105.1 r89.1.1 r94.1.1 a.1.2.1).bind fun r106 =>
  (bif (!r106.1) then
  some (.inr (.inl ((false, ()), (r105.2.1, r105.2.2.1, r105.2.2.2.1, (), (), (), (), (), (), ()))))
  else
  some (.inl ((a.1.1, a.1.2.1, (), a.1.2.2.2.1, (), (IntKind.i64.wrap (a.1.2.2.2.2.2.1 + 1)), ()), (r105.2.1, r105.2.2.1, r105.2.2.2.1, r93.2.1, r93.2.2.1, r93.2.2.2.1, (), (), ()))))))))
  else
  (bif (!(decide ((r91.1.2.1 : Int) = 0))) then
  (registry_Last r97.2.1 r97.2.2.1 r97.2.2.2.1).bind fun r107 =>
  (bif (decide ((r107.1 : Int) ≠ r88.1)) then
  some (.inr (.inl ((false, ()), (r107.2.1, r107.2.2.1, r107.2.2.2.1, (), (), (), (), (), (), ()))))
  else
  (registry_Shares r107.2.1 r107.2.2.1 r107.2.2.2.1).bind fun r108 =>
  (wl_turned r87.1 r108.1 r89.1.1 r94.1.1 a.1.2.1).bind fun r109 =>
  (bif (!r109.1) then
  some (.inr (.inl ((false, ()), (r108.2.1, r108.2.2.1, r108.2.2.2.1, (), (), (), (), (), (), ()))))
  else
  some (.inl ((a.1.1, a.1.2.1, (), a.1.2.2.2.1, (), (IntKind.i64.wrap (a.1.2.2.2.2.2.1 + 1)), ()), (r108.2.1, r108.2.2.1, r108.2.2.2.1, r93.2.1, r93.2.2.1, r93.2.2.2.1, (), (), ())))))
  else
  (registry_Shares r97.2.1 r97.2.2.1 r97.2.2.2.1).bind fun r110 =>
  (wl_turned r87.1 r110.1 r89.1.1 r94.1.1 a.1.2.1).bind fun r111 =>
  (bif (!r111.1) then
  some (.inr (.inl ((false, ()), (r110.2.1, r110.2.2.1, r110.2.2.2.1, (), (), (), (), (), (), ()))))
  else
  some (.inl ((a.1.1, a.1.2.1, (), a.1.2.2.2.1, (), (IntKind.i64.wrap (a.1.2.2.2.2.2.1 + 1)), ()), (r110.2.1, r110.2.2.1, r110.2.2.2.1, r93.2.1, r93.2.2.1, r93.2.2.2.1, (), (), ()))))))
  else
  (registry_Last r97.2.1 r97.2.2.1 r97.2.2.2.1).bind fun r112 =>
  (bif (decide ((r112.1 : Int) ≠ r88.1)) then
  some (.inr (.inl ((false, ()), (r112.2.1, r112.2.2.1, r112.2.2.2.1, (), (), (), (), (), (), ()))))
  else
  (registry_Shares r112.2.1 r112.2.2.1 r112.2.2.2.1).bind fun r113 =>
  (wl_turned r87.1 r113.1 r89.1.1 r94.1.1 a.1.2.1).bind fun r114 =>
  (bif (!r114.1) then
  some (.inr (.inl ((false, ()), (r113.2.1, r113.2.2.1, r113.2.2.2.1, (), (), (), (), (), (), ()))))
  else
  some (.inl ((a.1.1, a.1.2.1, (), a.1.2.2.2.1, (), (IntKind.i64.wrap (a.1.2.2.2.2.2.1 + 1)), ()), (r113.2.1, r113.2.2.1, r113.2.2.2.1, r93.2.1, r93.2.2.1, r93.2.2.2.1, (), (), ())))))))))))
  else
  (getI a.1.1 a.1.2.2.2.2.2.1).bind fun e115 =>
  (wk_Pick e115.kind 8).bind fun r116 =>
  (bif (decide ((r116.1 : Int) < 2)) then
  (bif (decide ((r91.1.2.1 : Int) = 0)) then
  (bif (decide ((r91.1.1 : Int) ≠ (IntKind.i64.wrap (r88.1 + 1)))) then
  some (.inr (.inl ((false, ()), (r95.2.1, r95.2.2.1, r95.2.2.2.1, (), (), (), (), (), (), ()))))
  else
  (bif r89.1.2.1 then
  some (.inr (.inl ((false, ()), (r95.2.1, r95.2.2.1, r95.2.2.2.1, (), (), (), (), (), (), ()))))
  else
  (registry_Last r95.2.1 r95.2.2.1 r95.2.2.2.1).bind fun r117 =>
  (bif (decide ((r117.1 : Int) ≠ r91.1.1)) then
  some (.inr (.inl ((false, ()), (r117.2.1, r117.2.2.1, r117.2.2.2.1, (), (), (), (), (), (), ()))))
  else
  (bif (!(decide ((r91.1.2.1 : Int) = 0))) then
  (registry_Last r117.2.1 r117.2.2.1 r117.2.2.2.1).bind fun r118 =>
  (bif (decide ((r118.1 : Int) ≠ r88.1)) then
  some (.inr (.inl ((false, ()), (r118.2.1, r118.2.2.1, r118.2.2.2.1, (), (), (), (), (), (), ()))))
  else
  (registry_Shares r118.2.1 r118.2.2.1 r118.2.2.2.1).bind fun r119 =>
  (wl_turned r87.1 r119.1 r89.1.1 r94.1.1 a.1.2.1).bind fun r120 =>
  (bif (!r120.1) then
  some (.inr (.inl ((false, ()), (r119.2.1, r119.2.2.1, r119.2.2.2.1, (), (), (), (), (), (), ()))))
  else
  some (.inl ((a.1.1, a.1.2.1, (), a.1.2.2.2.1, (), (IntKind.i64.wrap (a.1.2.2.2.2.2.1 + 1)), ()), (r119.2.1, r119.2.2.1, r119.2.2.2.1, r93.2.1, r93.2.2.1, r93.2.2.2.1, (), (), ())))))
  else
  (registry_Shares r117.2.1 r117.2.2.1 r117.2.2.2.1).bind fun r121 =>
  (wl_turned r87.1 r121.1 r89.1.1 r94.1.1 a.1.2.1).bind fun r122 =>
  (bif (!r122.1) then
  some (.inr (.inl ((false, ()), (r121.2.1, r121.2.2.1, r121.2.2.2.1, (), (), (), (), (), (), ()))))
  else
  some (.inl ((a.1.1, a.1.2.1, (), a.1.2.2.2.1, (), (IntKind.i64.wrap (a.1.2.2.2.2.2.1 + 1)), ()), (r121.2.1, r121.2.2.1, r121.2.2.2.1, r93.2.1, r93.2.2.1, r93.2.2.2.1, (), (), ()))))))))
  else
  (bif (!(decide ((r91.1.2.1 : Int) = 0))) then
  (registry_Last r95.2.1 r95.2.2.1 r95.2.2.2.1).bind fun r123 =>
  (bif (decide ((r123.1 : Int) ≠ r88.1)) then
  some (.inr (.inl ((false, ()), (r123.2.1, r123.2.2.1, r123.2.2.2.1, (), (), (), (), (), (), ()))))
  else
  (registry_Shares r123.2.1 r123.2.2.1 r123.2.2.2.1).bind fun r124 =>
  (wl_turned r87.1 r124.1 r89.1.1 r94.1.1 a.1.2.1).bind fun r125 =>
  (bif (!r125.1) then
  some (.inr (.inl ((false, ()), (r124.2.1, r124.2.2.1, r124.2.2.2.1, (), (), (), (), (), (), ()))))
  else
  some (.inl ((a.1.1, a.1.2.1, (), a.1.2.2.2.1, (), (IntKind.i64.wrap (a.1.2.2.2.2.2.1 + 1)), ()), (r124.2.1, r124.2.2.1, r124.2.2.2.1, r93.2.1, r93.2.2.1, r93.2.2.2.1, (), (), ())))))
  else
  (registry_Shares r95.2.1 r95.2.2.1 r95.2.2.2.1).bind fun r126 =>
  (wl_turned r87.1 r126.1 r89.1.1 r94.1.1 a.1.2.1).bind fun r127 =>
  (bif (!r127.1) then
  some (.inr (.inl ((false, ()), (r126.2.1, r126.2.2.1, r126.2.2.2.1, (), (), (), (), (), (), ()))))
  else
  some (.inl ((a.1.1, a.1.2.1, (), a.1.2.2.2.1, (), (IntKind.i64.wrap (a.1.2.2.2.2.2.1 + 1)), ()), (r126.2.1, r126.2.2.1, r126.2.2.2.1, r93.2.1, r93.2.2.1, r93.2.2.2.1, (), (), ()))))))
  else
  (registry_Last r95.2.1 r95.2.2.1 r95.2.2.2.1).bind fun r128 =>
  (bif (decide ((r128.1 : Int) ≠ r88.1)) then
  some (.inr (.inl ((false, ()), (r128.2.1, r128.2.2.1, r128.2.2.2.1, (), (), (), (), (), (), ()))))
  else
  (registry_Shares r128.2.1 r128.2.2.1 r128.2.2.2.1).bind fun r129 =>
  (wl_turned r87.1 r129.1 r89.1.1 r94.1.1 a.1.2.1).bind fun r130 =>
  (bif (!r130.1) then
  some (.inr (.inl ((false, ()), (r129.2.1, r129.2.2.1, r129.2.2.2.1, (), (), (), (), (), (), ()))))
  else
  some (.inl ((a.1.1, a.1.2.1, (), a.1.2.2.2.1, (), (IntKind.i64.wrap (a.1.2.2.2.2.2.1 + 1)), ()), (r129.2.1, r129.2.2.1, r129.2.2.2.1, r93.2.1, r93.2.2.1, r93.2.2.2.1, (), (), ()))))))))))
  else
  (registry_Scheme r91.2.1 r91.2.2.1 r91.2.2.2.1).bind fun r131 =>
  (wl_whole r131.2.1 r131.2.2.1 r131.2.2.2.1).bind fun r132 =>
  (bif (!r132.1) then
  some (.inr (.inl ((false, ()), (r132.2.1, r132.2.2.1, r132.2.2.2.1, (), (), (), (), (), (), ()))))
  else
  (bif (decide ((r91.1.2.1 : Int) ≠ 0)) then
  (bif (decide ((r91.1.1 : Int) ≠ 0)) then
  some (.inr (.inl ((false, ()), (r132.2.1, r132.2.2.1, r132.2.2.2.1, (), (), (), (), (), (), ()))))
  else
  (registry_Last r132.2.1 r132.2.2.1 r132.2.2.2.1).bind fun r133 =>
  (bif (decide ((r133.1 : Int) ≠ r88.1)) then
  some (.inr (.inl ((false, ()), (r133.2.1, r133.2.2.1, r133.2.2.2.1, (), (), (), (), (), (), ()))))
  else
  (bif (decide (r131.1.2.1 ≠ r89.1.2.1)) then
  some (.inr (.inl ((false, ()), (r133.2.1, r133.2.2.1, r133.2.2.2.1, (), (), (), (), (), (), ()))))
  else
  (bif (!(decide ((r89.1.1.num : Int) = r131.1.1.num) && (decide (r89.1.1.span.lo = r131.1.1.span.lo) && (decide (r89.1.1.span.hi = r131.1.1.span.hi) && (decide ((r89.1.1.from_ : Int) = r131.1.1.from_) && (decide ((r89.1.1.to_ : Int) = r131.1.1.to_) && (decide ((r89.1.1.epoch : Int) = r131.1.1.epoch) && (decide ((r89.1.1.under : Int) = r131.1.1.under) && (decide ((r89.1.1.stage : Int) = r131.1.1.stage) && true))))))))) then
  some (.inr (.inl ((false, ()), (r133.2.1, r133.2.2.1, r133.2.2.2.1, (), (), (), (), (), (), ()))))
  else
  (registry_Shares r133.2.1 r133.2.2.1 r133.2.2.2.1).bind fun r134 =>
  (wk_SameShares r87.1 r134.1).bind fun r135 =>
  (bif (!r135.1) then
  some (.inr (.inl ((false, ()), (r134.2.1, r134.2.2.1, r134.2.2.2.1, (), (), (), (), (), (), ()))))
  else
  (getI a.1.1 a.1.2.2.2.2.2.1).bind fun e136 =>
  (wk_Pick e136.kind 8).bind fun r137 =>
  (bif (decide ((r137.1 : Int) < 2)) then
  (bif (decide ((r91.1.2.1 : Int) = 0)) then
  (bif (decide ((r91.1.1 : Int) ≠ (IntKind.i64.wrap (r88.1 + 1)))) then
  some (.inr (.inl ((false, ()), (r134.2.1, r134.2.2.1, r134.2.2.2.1, (), (), (), (), (), (), ()))))
  else
  (bif r89.1.2.1 then
  some (.inr (.inl ((false, ()), (r134.2.1, r134.2.2.1, r134.2.2.2.1, (), (), (), (), (), (), ()))))
  else
  (registry_Last r134.2.1 r134.2.2.1 r134.2.2.2.1).bind fun r138 =>
  (bif (decide ((r138.1 : Int) ≠ r91.1.1)) then
  some (.inr (.inl ((false, ()), (r138.2.1, r138.2.2.1, r138.2.2.2.1, (), (), (), (), (), (), ()))))
  else
  (bif (!(decide ((r91.1.2.1 : Int) = 0))) then
  (registry_Last r138.2.1 r138.2.2.1 r138.2.2.2.1).bind fun r139 =>
  (bif (decide ((r139.1 : Int) ≠ r88.1)) then
  some (.inr (.inl ((false, ()), (r139.2.1, r139.2.2.1, r139.2.2.2.1, (), (), (), (), (), (), ()))))
  else
  (registry_Shares r139.2.1 r139.2.2.1 r139.2.2.2.1).bind fun r140 =>
  (wl_turned r87.1 r140.1 r89.1.1 r131.1.1 a.1.2.1).bind fun r141 =>
  (bif (!r141.1) then
  some (.inr (.inl ((false, ()), (r140.2.1, r140.2.2.1, r140.2.2.2.1, (), (), (), (), (), (), ()))))
  else
  some (.inl ((a.1.1, a.1.2.1, (), a.1.2.2.2.1, (), (IntKind.i64.wrap (a.1.2.2.2.2.2.1 + 1)), ()), (r140.2.1, r140.2.2.1, r140.2.2.2.1, a.2.2.2.2.1, a.2.2.2.2.2.1, a.2.2.2.2.2.2.1, (), (), ())))))
  else
  (registry_Shares r138.2.1 r138.2.2.1 r138.2.2.2.1).bind fun r142 =>
  (wl_turned r87.1 r142.1 r89.1.1 r131.1.1 a.1.2.1).bind fun r143 =>
  (bif (!r143.1) then
  some (.inr (.inl ((false, ()), (r142.2.1, r142.2.2.1, r142.2.2.2.1, (), (), (), (), (), (), ()))))
  else
  some (.inl ((a.1.1, a.1.2.1, (), a.1.2.2.2.1, (), (IntKind.i64.wrap (a.1.2.2.2.2.2.1 + 1)), ()), (r142.2.1, r142.2.2.1, r142.2.2.2.1, a.2.2.2.2.1, a.2.2.2.2.2.1, a.2.2.2.2.2.2.1, (), (), ()))))))))
  else
  (bif (!(decide ((r91.1.2.1 : Int) = 0))) then
  (registry_Last r134.2.1 r134.2.2.1 r134.2.2.2.1).bind fun r144 =>
  (bif (decide ((r144.1 : Int) ≠ r88.1)) then
  some (.inr (.inl ((false, ()), (r144.2.1, r144.2.2.1, r144.2.2.2.1, (), (), (), (), (), (), ()))))
  else
  (registry_Shares r144.2.1 r144.2.2.1 r144.2.2.2.1).bind fun r145 =>
  (wl_turned r87.1 r145.1 r89.1.1 r131.1.1 a.1.2.1).bind fun r146 =>
  (bif (!r146.1) then
  some (.inr (.inl ((false, ()), (r145.2.1, r145.2.2.1, r145.2.2.2.1, (), (), (), (), (), (), ()))))
  else
  some (.inl ((a.1.1, a.1.2.1, (), a.1.2.2.2.1, (), (IntKind.i64.wrap (a.1.2.2.2.2.2.1 + 1)), ()), (r145.2.1, r145.2.2.1, r145.2.2.2.1, a.2.2.2.2.1, a.2.2.2.2.2.1, a.2.2.2.2.2.2.1, (), (), ())))))
  else
  (registry_Shares r134.2.1 r134.2.2.1 r134.2.2.2.1).bind fun r147 =>
  (wl_turned r87.1 r147.1 r89.1.1 r131.1.1 a.1.2.1).bind fun r148 =>
  (bif (!r148.1) then
  some (.inr (.inl ((false, ()), (r147.2.1, r147.2.2.1, r147.2.2.2.1, (), (), (), (), (), (), ()))))
  else
  some (.inl ((a.1.1, a.1.2.1, (), a.1.2.2.2.1, (), (IntKind.i64.wrap (a.1.2.2.2.2.2.1 + 1)), ()), (r147.2.1, r147.2.2.1, r147.2.2.2.1, a.2.2.2.2.1, a.2.2.2.2.2.1, a.2.2.2.2.2.2.1, (), (), ()))))))
  else
  (registry_Last r134.2.1 r134.2.2.1 r134.2.2.2.1).bind fun r149 =>
  (bif (decide ((r149.1 : Int) ≠ r88.1)) then
  some (.inr (.inl ((false, ()), (r149.2.1, r149.2.2.1, r149.2.2.2.1, (), (), (), (), (), (), ()))))
  else
  (registry_Shares r149.2.1 r149.2.2.1 r149.2.2.2.1).bind fun r150 =>
  (wl_turned r87.1 r150.1 r89.1.1 r131.1.1 a.1.2.1).bind fun r151 =>
  (bif (!r151.1) then
  some (.inr (.inl ((false, ()), (r150.2.1, r150.2.2.1, r150.2.2.2.1, (), (), (), (), (), (), ()))))
  else
  some (.inl ((a.1.1, a.1.2.1, (), a.1.2.2.2.1, (), (IntKind.i64.wrap (a.1.2.2.2.2.2.1 + 1)), ()), (r150.2.1, r150.2.2.1, r150.2.2.2.1, a.2.2.2.2.1, a.2.2.2.2.2.1, a.2.2.2.2.2.2.1, (), (), ())))))))))))
  else
  (getI a.1.1 a.1.2.2.2.2.2.1).bind fun e152 =>
  (wk_Pick e152.kind 8).bind fun r153 =>
  (bif (decide ((r153.1 : Int) < 2)) then
  (bif (decide ((r91.1.2.1 : Int) = 0)) then
  (bif (decide ((r91.1.1 : Int) ≠ (IntKind.i64.wrap (r88.1 + 1)))) then
  some (.inr (.inl ((false, ()), (r132.2.1, r132.2.2.1, r132.2.2.2.1, (), (), (), (), (), (), ()))))
  else
  (bif r89.1.2.1 then
  some (.inr (.inl ((false, ()), (r132.2.1, r132.2.2.1, r132.2.2.2.1, (), (), (), (), (), (), ()))))
  else
  (registry_Last r132.2.1 r132.2.2.1 r132.2.2.2.1).bind fun r154 =>
  (bif (decide ((r154.1 : Int) ≠ r91.1.1)) then
  some (.inr (.inl ((false, ()), (r154.2.1, r154.2.2.1, r154.2.2.2.1, (), (), (), (), (), (), ()))))
  else
  (bif (!(decide ((r91.1.2.1 : Int) = 0))) then
  (registry_Last r154.2.1 r154.2.2.1 r154.2.2.2.1).bind fun r155 =>
  (bif (decide ((r155.1 : Int) ≠ r88.1)) then
  some (.inr (.inl ((false, ()), (r155.2.1, r155.2.2.1, r155.2.2.2.1, (), (), (), (), (), (), ()))))
  else
  (registry_Shares r155.2.1 r155.2.2.1 r155.2.2.2.1).bind fun r156 =>
  (wl_turned r87.1 r156.1 r89.1.1 r131.1.1 a.1.2.1).bind fun r157 =>
  (bif (!r157.1) then
  some (.inr (.inl ((false, ()), (r156.2.1, r156.2.2.1, r156.2.2.2.1, (), (), (), (), (), (), ()))))
  else
  some (.inl ((a.1.1, a.1.2.1, (), a.1.2.2.2.1, (), (IntKind.i64.wrap (a.1.2.2.2.2.2.1 + 1)), ()), (r156.2.1, r156.2.2.1, r156.2.2.2.1, a.2.2.2.2.1, a.2.2.2.2.2.1, a.2.2.2.2.2.2.1, (), (), ())))))
  else
  (registry_Shares r154.2.1 r154.2.2.1 r154.2.2.2.1).bind fun r158 =>
  (wl_turned r87.1 r158.1 r89.1.1 r131.1.1 a.1.2.1).bind fun r159 =>
  (bif (!r159.1) then
  some (.inr (.inl ((false, ()), (r158.2.1, r158.2.2.1, r158.2.2.2.1, (), (), (), (), (), (), ()))))
  else
  some (.inl ((a.1.1, a.1.2.1, (), a.1.2.2.2.1, (), (IntKind.i64.wrap (a.1.2.2.2.2.2.1 + 1)), ()), (r158.2.1, r158.2.2.1, r158.2.2.2.1, a.2.2.2.2.1, a.2.2.2.2.2.1, a.2.2.2.2.2.2.1, (), (), ()))))))))
  else
  (bif (!(decide ((r91.1.2.1 : Int) = 0))) then
  (registry_Last r132.2.1 r132.2.2.1 r132.2.2.2.1).bind fun r160 =>
  (bif (decide ((r160.1 : Int) ≠ r88.1)) then
  some (.inr (.inl ((false, ()), (r160.2.1, r160.2.2.1, r160.2.2.2.1, (), (), (), (), (), (), ()))))
  else
  (registry_Shares r160.2.1 r160.2.2.1 r160.2.2.2.1).bind fun r161 =>
  (wl_turned r87.1 r161.1 r89.1.1 r131.1.1 a.1.2.1).bind fun r162 =>
  (bif (!r162.1) then
  some (.inr (.inl ((false, ()), (r161.2.1, r161.2.2.1, r161.2.2.2.1, (), (), (), (), (), (), ()))))
  else
  some (.inl ((a.1.1, a.1.2.1, (), a.1.2.2.2.1, (), (IntKind.i64.wrap (a.1.2.2.2.2.2.1 + 1)), ()), (r161.2.1, r161.2.2.1, r161.2.2.2.1, a.2.2.2.2.1, a.2.2.2.2.2.1, a.2.2.2.2.2.2.1, (), (), ())))))
  else
  (registry_Shares r132.2.1 r132.2.2.1 r132.2.2.2.1).bind fun r163 =>
  (wl_turned r87.1 r163.1 r89.1.1 r131.1.1 a.1.2.1).bind fun r164 =>
  (bif (!r164.1) then
  some (.inr (.inl ((false, ()), (r163.2.1, r163.2.2.1, r163.2.2.2.1, (), (), (), (), (), (), ()))))
  else
  some (.inl ((a.1.1, a.1.2.1, (), a.1.2.2.2.1, (), (IntKind.i64.wrap (a.1.2.2.2.2.2.1 + 1)), ()), (r163.2.1, r163.2.2.1, r163.2.2.2.1, a.2.2.2.2.1, a.2.2.2.2.2.1, a.2.2.2.2.2.2.1, (), (), ()))))))
  else
  (registry_Last r132.2.1 r132.2.2.1 r132.2.2.2.1).bind fun r165 =>
  (bif (decide ((r165.1 : Int) ≠ r88.1)) then
  some (.inr (.inl ((false, ()), (r165.2.1, r165.2.2.1, r165.2.2.2.1, (), (), (), (), (), (), ()))))
  else
  (registry_Shares r165.2.1 r165.2.2.1 r165.2.2.2.1).bind fun r166 =>
  (wl_turned r87.1 r166.1 r89.1.1 r131.1.1 a.1.2.1).bind fun r167 =>
  (bif (!r167.1) then
  some (.inr (.inl ((false, ()), (r166.2.1, r166.2.2.1, r166.2.2.2.1, (), (), (), (), (), (), ()))))
  else
  some (.inl ((a.1.1, a.1.2.1, (), a.1.2.2.2.1, (), (IntKind.i64.wrap (a.1.2.2.2.2.2.1 + 1)), ()), (r166.2.1, r166.2.2.1, r166.2.2.2.1, a.2.2.2.2.1, a.2.2.2.2.2.1, a.2.2.2.2.2.2.1, (), (), ()))))))))))
  else
  some (.inr (.inr ((a.1.1, (), a.1.2.2.2.1, (), ()), (a.2.1, a.2.2.1, a.2.2.2.1, (), (), (), (), (), a.2.2.2.2.1, a.2.2.2.2.2.1, a.2.2.2.2.2.2.1, (), (), ())))))
def wl_RegistryTurns_e1 : LEp := ⟨11, [1, 2, 9, 10, 11, 12], [.one (.sl 13), .one (.sl 2), .one (.ptr 0 0), .one (.int .i64), .one (.ptr 3 0), .one (.int .i64)], [.obj 110 [.ptr 1 0, .int .i64, .sl 5, .bool, .int .i64, .str, .str, .int .i64, .int .i64, .int .i64, .int .i64, .int .u8, .int .i64], .obj 197 [.own 12 6, .mo 2], .mmap (.two .i64 .i64) (.int .i64), .lobj 110 [.ptr 4 0, .int .i64, .sl 5, .bool, .int .i64, .str, .str, .int .i64, .int .i64, .int .i64, .int .i64, .int .u8, .int .i64], .lobj 197 [.own 12 7, .mo 5], .lmap (.two .i64 .i64) (.int .i64), .row 41 5, .row 41 5], [⟨.ret, [8], [.one (.bool)], [.obj 110 [.ptr 1 0, .int .i64, .sl 5, .bool, .int .i64, .str, .str, .int .i64, .int .i64, .int .i64, .int .i64, .int .u8, .int .i64], .obj 197 [.own 12 8, .mo 2], .mmap (.two .i64 .i64) (.int .i64), .dead, .dead, .dead, .dead, .dead, .row 41 5]⟩, ⟨.exit 0, [1, 9, 10, 11], [.one (.sl 13), .one (.ptr 0 0), .one (.int .i64), .one (.ptr 8 0)], [.obj 110 [.ptr 1 0, .int .i64, .sl 5, .bool, .int .i64, .str, .str, .int .i64, .int .i64, .int .i64, .int .i64, .int .u8, .int .i64], .obj 197 [.own 12 11, .mo 2], .mmap (.two .i64 .i64) (.int .i64), .dead, .dead, .dead, .dead, .dead, .obj 110 [.ptr 9 0, .int .i64, .sl 5, .bool, .int .i64, .str, .str, .int .i64, .int .i64, .int .i64, .int .i64, .int .u8, .int .i64], .obj 197 [.own 12 12, .mo 10], .mmap (.two .i64 .i64) (.int .i64), .row 41 5, .row 41 5]⟩], wl_RegistryTurns_l1⟩
def wl_RegistryTurns_lt : List (LEp) := [wl_RegistryTurns_e1]
theorem wl_RegistryTurns_e1_ok : LeOk wl_RegistryTurns_e1 (nthL (bodyOf Tryz.f6) 0) := fun A env h k z hk => le_ok (E := wl_RegistryTurns_e1) (orcOf_ok wl_RegistryTurns_tb) (dr := wl_RegistryTurns_dr) (lps := lpsOf wl_RegistryTurns_lt) (no_loop (by kernel_rfl)) (fun a => by kernel_rfl) env h k z hk
def wl_RegistryTurns (x0 : Int) (x1 : List (DDeed)) (x2 : List (List UInt8)) (x3 : Int) : Option (Bool × Unit) :=
  (wl_awake).bind fun r1 =>
  (bif (!r1.1) then
  some (false, ())
  else
  (wl_light x1).bind fun r2 =>
  (bif (!r2.1) then
  some (true, ())
  else
  (bif (decide ((100 : Int) < (x2.length : Int))) then
  some (true, ())
  else
  (shares_First x0).bind fun r3 =>
  (registry_New r3.1).bind fun r4 =>
  (wk_Pick x3 (IntKind.i64.wrap ((x1.length : Int) + 1))).bind fun r5 =>
  (registry_Copy r4.2.1 r4.2.2.1 r4.2.2.2.1).bind fun r6 =>
  (loopM wl_RegistryTurns_l1 ((x1, x2, (), r5.1, (), 0, ()), (r6.2.1, r6.2.2.1, r6.2.2.2.1, r6.2.2.2.2.2.1, r6.2.2.2.2.2.2.1, r6.2.2.2.2.2.2.2.1, (), (), ()))).bind fun b7 =>
  (match b7 with
  | .inl b9 =>
  some (b9.1.1, ())
  | .inr b10 =>
  (wire_NewWriter).bind fun r11 =>
  (registry_Write b10.2.1 r11.2.1 b10.2.2.1 b10.2.2.2.1).bind fun r12 =>
  (wire_Done r12.2.2.1).bind fun r13 =>
  (wire_NewWriter).bind fun r14 =>
  (registry_Write b10.2.2.2.2.2.2.2.2.2.1 r14.2.1 b10.2.2.2.2.2.2.2.2.2.2.1 b10.2.2.2.2.2.2.2.2.2.2.2.1).bind fun r15 =>
  (wire_Done r15.2.2.1).bind fun r16 =>
  (bif (decide ((r13.1.2.1 : Int) = 0)) then
  (bif (decide ((r16.1.2.1 : Int) = 0)) then
  (bif (decide (((IntKind.i64.wrap ((b10.1.1.length : Int) - 1)) : Int) < b10.1.2.2.1)) then
  some (true, ())
  else
  (wk_SameBytes r13.1.1 r16.1.1).bind fun r17 =>
  some (r17.1, ()))
  else
  some (false, ()))
  else
  some (false, ()))))))
def wl_RegistryTurns_ce : CEp where
  f := 6
  args := [.one (.int .i64), .one (.sl 13), .one (.sl 2), .one (.int .i64)]
  hs := []
  res := .val (.one (.bool))
  outs := []
  m := fun d dh => wl_RegistryTurns d.1 d.2.1 d.2.2.1 d.2.2.2.1
  ok := ce_ok mixedP Tryz.func6 (by kernel_rfl) (orcOf_ok wl_RegistryTurns_tb) (dr := wl_RegistryTurns_dr) (lps := lpsOf wl_RegistryTurns_lt) (lps_fn (lps_of (n := 1) (by kernel_rfl) fun i hi => match i, hi with | 0, _ => lp_ok (E := wl_RegistryTurns_e1) (by kernel_rfl) wl_RegistryTurns_e1_ok)) (fun d dh => by kernel_rfl)
end
end Go.Proofs.YtaihdjknneiciaaGreat
