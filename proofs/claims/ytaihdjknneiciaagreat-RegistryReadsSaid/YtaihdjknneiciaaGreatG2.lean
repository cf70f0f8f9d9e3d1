/- The laws. -/
import Derived.Test.YtaihdjknneiciaaGreatG1
namespace Go.Proofs.YtaihdjknneiciaaGreat
noncomputable section
open Go.RowKit
set_option maxRecDepth 100000
set_option linter.unusedVariables false
def Zma : Nat -> Nat -> DrA
 | 11, n => bif Nat.beq n 7 then ⟨(List.range 8 ++ [9, 10, 11, 12, 13, 8, 14, 15, 16, 17, 18, 19, 20]), [[], [0], [0, 1], [0, 1, 2], [0, 1, 2], (List.range 5), (List.range 6), (List.range 7), (List.range 8), (List.range 7), (List.range 7 ++ [9]), (List.range 7 ++ [9, 10]), (List.range 7 ++ [9, 10, 11]), (List.range 7 ++ [9, 10, 11, 12]), (List.range 14), (List.range 15), (List.range 16), (List.range 17), (List.range 18), (List.range 19), (List.range 20)], [12], [8], [], false, []⟩ else bif Nat.beq n 11 then ⟨(List.range 8 ++ [9, 10, 11, 12, 13, 8, 14, 15, 16, 17, 18, 19, 20]), [[], [0], [0, 1], [0, 1, 2], [0, 1, 2], (List.range 5), (List.range 6), (List.range 7), (List.range 8), (List.range 7), (List.range 7 ++ [9]), (List.range 7 ++ [9, 10]), (List.range 7 ++ [9, 10, 11]), (List.range 7 ++ [9, 10, 11, 12]), (List.range 14), (List.range 15), (List.range 16), (List.range 17), (List.range 18), (List.range 19), (List.range 20)], [12], [8], [], false, []⟩ else ⟨(List.range 8 ++ [9, 10, 11, 12, 13, 8, 14, 15, 16, 17, 18, 19, 20]), [[], [0], [0, 1], [0, 1, 2], [0, 1, 2], (List.range 5), (List.range 6), (List.range 7), (List.range 8), (List.range 7), (List.range 7 ++ [9]), (List.range 7 ++ [9, 10]), (List.range 7 ++ [9, 10, 11]), (List.range 7 ++ [9, 10, 11, 12]), (List.range 14), (List.range 15), (List.range 16), (List.range 17), (List.range 18), (List.range 19), (List.range 20)], [12], [8], [6], false, []⟩
 | _, _ => ⟨[], [], [], [], [], false, []⟩
def Zmb : List (CEp) := [ZxE, Zn6, Zli, ZrK, Zh3, ZpQ, ZxW, Zjo, ZrV, ZzX, Zhg]
def ZfY (x0 : LB) : Option (Bool × Unit) :=
 (bif (decide ((4000 : Int) < (x0.length : Int))) then
 (Zes).bind fun r1 =>
 some (r1.1, ())
 else
 (ZdK x0).bind fun r2 =>
 (Zdq r2.1.1).bind fun r3 =>
 (Zhm x0).bind fun r4 =>
 (Zcc r2.1.1).bind fun r5 =>
 (Zdr r5.2.1).bind fun r6 =>
 (match r6 with
 | .inl r7 =>
 (Zi6 (⟨x0, false⟩ : ZaA)).bind fun r9 =>
 (match r9 with
 | .inl r10 =>
 (bif (decide (r3.1.2.2.2.1 ≠ r4.1.2.2.2.1)) then
 some (false, ())
 else
 (bif (decide (r3.1.2.2.1 ≠ r4.1.2.2.1)) then
 some (false, ())
 else
 (bif (!(decide ((r3.1.2.1.num : Int) = r4.1.2.1.num) && (decide (r3.1.2.1.span.lo = r4.1.2.1.span.lo) && (decide (r3.1.2.1.span.hi = r4.1.2.1.span.hi) && (decide ((r3.1.2.1.from_ : Int) = r4.1.2.1.from_) && (decide ((r3.1.2.1.to_ : Int) = r4.1.2.1.to_) && (decide ((r3.1.2.1.epoch : Int) = r4.1.2.1.epoch) && (decide ((r3.1.2.1.under : Int) = r4.1.2.1.under) && (decide ((r3.1.2.1.stage : Int) = r4.1.2.1.stage) && true))))))))) then
 some (false, ())
 else
 (Zb6 r3.1.1 r4.1.1).bind fun r12 =>
 (bif (!r12.1) then
 some (false, ())
 else
 (bif (decide (r7.1.2.1 ≠ r10.1.2.1)) then
 some (false, ())
 else
 (Zc5 (r2.1.1, r2.1.2) x0).bind fun r13 =>
 (bif (!r13.1) then
 some (false, ())
 else
 (bif (!r7.1.2.1) then
 some (false, ())
 else
 (bif (!r7.1.2.1) then
 (Zes).bind fun r14 =>
 some (r14.1, ())
 else
 (Zu1 r7.2.2.2.1 (r10.2.2.1.1, r10.2.2.1.2.1, (r10.2.2.1.2.2.1.1, r10.2.2.1.2.2.1.2.1, r10.2.2.1.2.2.1.2.2), r10.2.2.1.2.2.2.1, (), ()) r7.2.2.2.2.1 r10.2.2.2.2.1 (r10.2.2.2.1.1, ()) r7.2.2.2.2.2.1).bind fun r15 =>
 (bif r15.1 then
 (Zh7 r7.2.1).bind fun r16 =>
 (bif (decide ((r16.1 : Int) = (r10.2.1.left.length : Int))) then
 (Zes).bind fun r17 =>
 some (r17.1, ())
 else
 some (false, ()))
 else
 some (false, ()))))))))))
 | .inr r11 =>
 (bif (decide (r3.1.2.2.2.1 ≠ r4.1.2.2.2.1)) then
 some (false, ())
 else
 (bif (decide (r3.1.2.2.1 ≠ r4.1.2.2.1)) then
 some (false, ())
 else
 (bif (!(decide ((r3.1.2.1.num : Int) = r4.1.2.1.num) && (decide (r3.1.2.1.span.lo = r4.1.2.1.span.lo) && (decide (r3.1.2.1.span.hi = r4.1.2.1.span.hi) && (decide ((r3.1.2.1.from_ : Int) = r4.1.2.1.from_) && (decide ((r3.1.2.1.to_ : Int) = r4.1.2.1.to_) && (decide ((r3.1.2.1.epoch : Int) = r4.1.2.1.epoch) && (decide ((r3.1.2.1.under : Int) = r4.1.2.1.under) && (decide ((r3.1.2.1.stage : Int) = r4.1.2.1.stage) && true))))))))) then
 some (false, ())
 else
 (Zb6 r3.1.1 r4.1.1).bind fun r18 =>
 (bif (!r18.1) then
 some (false, ())
 else
 (bif (decide (r7.1.2.1 ≠ r11.1.2.1)) then
 some (false, ())
 else
 (Zc5 (r2.1.1, r2.1.2) x0).bind fun r19 =>
 (bif (!r19.1) then
 some (false, ())
 else
 (bif (!r7.1.2.1) then
 some (false, ())
 else
 (bif (!r7.1.2.1) then
 (Zes).bind fun r20 =>
 some (r20.1, ())
 else
 none)))))))))
 | .inr r8 =>
 (Zi6 (⟨x0, false⟩ : ZaA)).bind fun r21 =>
 (match r21 with
 | .inl r22 =>
 (bif (decide (r3.1.2.2.2.1 ≠ r4.1.2.2.2.1)) then
 some (false, ())
 else
 (bif (decide (r3.1.2.2.1 ≠ r4.1.2.2.1)) then
 some (false, ())
 else
 (bif (!(decide ((r3.1.2.1.num : Int) = r4.1.2.1.num) && (decide (r3.1.2.1.span.lo = r4.1.2.1.span.lo) && (decide (r3.1.2.1.span.hi = r4.1.2.1.span.hi) && (decide ((r3.1.2.1.from_ : Int) = r4.1.2.1.from_) && (decide ((r3.1.2.1.to_ : Int) = r4.1.2.1.to_) && (decide ((r3.1.2.1.epoch : Int) = r4.1.2.1.epoch) && (decide ((r3.1.2.1.under : Int) = r4.1.2.1.under) && (decide ((r3.1.2.1.stage : Int) = r4.1.2.1.stage) && true))))))))) then
 some (false, ())
 else
 (Zb6 r3.1.1 r4.1.1).bind fun r24 =>
 (bif (!r24.1) then
 some (false, ())
 else
 (bif (decide (r8.1.2.1 ≠ r22.1.2.1)) then
 some (false, ())
 else
 (Zc5 (r2.1.1, r2.1.2) x0).bind fun r25 =>
 (bif (!r25.1) then
 some (false, ())
 else
 (bif (!r8.1.2.1) then
 (bif (!r8.1.2.1) then
 (Zes).bind fun r26 =>
 some (r26.1, ())
 else
 none)
 else
 (bif (!r8.1.2.1) then
 (Zes).bind fun r27 =>
 some (r27.1, ())
 else
 none))))))))
 | .inr r23 =>
 (bif (decide (r3.1.2.2.2.1 ≠ r4.1.2.2.2.1)) then
 some (false, ())
 else
 (bif (decide (r3.1.2.2.1 ≠ r4.1.2.2.1)) then
 some (false, ())
 else
 (bif (!(decide ((r3.1.2.1.num : Int) = r4.1.2.1.num) && (decide (r3.1.2.1.span.lo = r4.1.2.1.span.lo) && (decide (r3.1.2.1.span.hi = r4.1.2.1.span.hi) && (decide ((r3.1.2.1.from_ : Int) = r4.1.2.1.from_) && (decide ((r3.1.2.1.to_ : Int) = r4.1.2.1.to_) && (decide ((r3.1.2.1.epoch : Int) = r4.1.2.1.epoch) && (decide ((r3.1.2.1.under : Int) = r4.1.2.1.under) && (decide ((r3.1.2.1.stage : Int) = r4.1.2.1.stage) && true))))))))) then
 some (false, ())
 else
 (Zb6 r3.1.1 r4.1.1).bind fun r28 =>
 (bif (!r28.1) then
 some (false, ())
 else
 (bif (decide (r8.1.2.1 ≠ r23.1.2.1)) then
 some (false, ())
 else
 (Zc5 (r2.1.1, r2.1.2) x0).bind fun r29 =>
 (bif (!r29.1) then
 some (false, ())
 else
 (bif (!r8.1.2.1) then
 (bif (!r8.1.2.1) then
 (Zes).bind fun r30 =>
 some (r30.1, ())
 else
 none)
 else
 (bif (!r8.1.2.1) then
 (Zes).bind fun r31 =>
 some (r31.1, ())
 else
 none)))))))))))
def Zmc : CEp where
 f := 5
 args := [.one (.sl 1)]
 hs := []
 res := .val (.one (.bool))
 outs := []
 m := fun d dh => ZfY d.1
 ok := ZaO Zar Tryz.func5 (by kernel_rfl) (Zad Zmb) (dr := Zma) (lps := Zap lt0) (Zau (Zal (by kernel_rfl))) (fun d dh => by kernel_rfl)
end
end Go.Proofs.YtaihdjknneiciaaGreat
