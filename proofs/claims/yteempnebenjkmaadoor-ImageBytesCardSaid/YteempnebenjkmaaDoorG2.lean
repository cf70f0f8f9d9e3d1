/- The laws. -/
import Derived.Test.YteempnebenjkmaaDoorG1
import Derived.Test.YteempnebenjkmaaDoorPq
namespace Go.Proofs.YteempnebenjkmaaDoor
open Go.RowKit
set_option maxRecDepth 100000
set_option linter.unusedVariables false
noncomputable def ZAi : Option (Bool × Unit) := some (true, ())
noncomputable def ZwR : CE CT Tryd.prog where
 f := 4
 args := []
 hs := []
 res := .val (.one .bool)
 outs := []
 m := fun d dh => ZAi
 ok := fun d dh r hr => by
  injection hr with hr
  subst hr
  exact ZwQ
def ZeB : Nat -> Nat -> DrA
 | _, _ => ⟨[], [], [], [], [], false, []⟩
noncomputable def ZeC : List (CE CT Tryd.prog) := [ZwR, ZgM, Zim, ZiN, ZkW, ZfR, Ze1]
noncomputable def ZeD : List (LE CT Tryd.prog) := []
noncomputable def Zb1 (x0 : Zcd) : Option ((Bool) × (Unit)) :=
 (ZAi).bind fun r1 =>
 (bif (!r1.1) then
 some (false, ())
 else
 (Zb7 x0).bind fun r2 =>
 (bif r2.1 then
 some (true, ())
 else
 (Zdi x0).bind fun r3 =>
 (Zdh x0.base.config).bind fun r4 =>
 (bif r4.1 then
 (bif (decide ((0 : Int) <= x0.base.index)) then
 (bif (decide ((x0.base.index : Int) <= 1073741824)) then
 (bif (decide ((0 : Int) <= x0.base.term_)) then
 (bif (decide ((r3.1.2.1 : Int) ≠ 0)) then
 (bif (decide ((r3.1.2.1 : Int) = 2)) then
 (bif (!(decide ((x0.base.term_ : Int) <= 1073741824))) then
 some ((decide (((r3.1.1.length : Int) : Int) = 0)), ())
 else
 some (false, ()))
 else
 some (false, ()))
 else
 (bif (decide (((r3.1.1.length : Int) : Int) = 0)) then
 some (false, ())
 else
 (Za6 r3.1.1).bind fun r5 =>
 (if 0 <= ((0 : Int) : Int) /\ ((0 : Int) : Int) <= (IntKind.i64.wrap ((r3.1.1.length : Int) - 1)) /\ (IntKind.i64.wrap ((r3.1.1.length : Int) - 1)) <= (r3.1.1.length : Int) then
 let y6 : List (UInt8) := ((r3.1.1.drop ((0 : Int) : Int).toNat).take (((IntKind.i64.wrap ((r3.1.1.length : Int) - 1)) : Int).toNat - ((0 : Int) : Int).toNat))
 (Za6 y6).bind fun r7 =>
 (Za0 r3.1.1).bind fun r8 =>
 (b8 0).bind fun u9 =>
 (if r8.1.length + ([u9] : List (UInt8)).length <= 140737488355328 /\ (r8.1.length + ([u9] : List (UInt8)).length) * 1 <= 140737488355328 then
 (Za6 (r8.1 ++ ([u9] : List (UInt8)))).bind fun r10 =>
 (bif (decide ((x0.base.term_ : Int) <= 1073741824)) then
 (bif r5.1.2.1 then
 (Zbw x0 (r5.1.1.1, r5.1.1.2.1, r5.1.1.2.2.1, r5.1.1.2.2.2.1, r5.1.1.2.2.2.2.1, r5.1.1.2.2.2.2.2.1, r5.1.1.2.2.2.2.2.2.1, ()) r5.2.1 r5.2.2.1 r5.2.2.2.1 r5.2.2.2.2.1).bind fun r11 =>
 (bif r11.1 then
 (bif (!r7.1.2.1) then
 some ((!r10.1.2.1), ())
 else
 some (false, ()))
 else
 some (false, ()))
 else
 some (false, ()))
 else
 some (false, ()))
 else none)
 else none)))
 else
 (bif (decide ((r3.1.2.1 : Int) ≠ 0)) then
 (bif (decide ((r3.1.2.1 : Int) = 2)) then
 some ((decide (((r3.1.1.length : Int) : Int) = 0)), ())
 else
 some (false, ()))
 else
 (bif (decide (((r3.1.1.length : Int) : Int) = 0)) then
 some (false, ())
 else
 (Za6 r3.1.1).bind fun r12 =>
 (if 0 <= ((0 : Int) : Int) /\ ((0 : Int) : Int) <= (IntKind.i64.wrap ((r3.1.1.length : Int) - 1)) /\ (IntKind.i64.wrap ((r3.1.1.length : Int) - 1)) <= (r3.1.1.length : Int) then
 let y13 : List (UInt8) := ((r3.1.1.drop ((0 : Int) : Int).toNat).take (((IntKind.i64.wrap ((r3.1.1.length : Int) - 1)) : Int).toNat - ((0 : Int) : Int).toNat))
 (Za6 y13).bind fun r14 =>
 (Za0 r3.1.1).bind fun r15 =>
 (b8 0).bind fun u16 =>
 (if r15.1.length + ([u16] : List (UInt8)).length <= 140737488355328 /\ (r15.1.length + ([u16] : List (UInt8)).length) * 1 <= 140737488355328 then
 (Za6 (r15.1 ++ ([u16] : List (UInt8)))).bind fun r17 =>
 some (false, ())
 else none)
 else none))))
 else
 (bif (decide ((r3.1.2.1 : Int) ≠ 0)) then
 (bif (decide ((r3.1.2.1 : Int) = 2)) then
 some ((decide (((r3.1.1.length : Int) : Int) = 0)), ())
 else
 some (false, ()))
 else
 (bif (decide (((r3.1.1.length : Int) : Int) = 0)) then
 some (false, ())
 else
 (Za6 r3.1.1).bind fun r18 =>
 (if 0 <= ((0 : Int) : Int) /\ ((0 : Int) : Int) <= (IntKind.i64.wrap ((r3.1.1.length : Int) - 1)) /\ (IntKind.i64.wrap ((r3.1.1.length : Int) - 1)) <= (r3.1.1.length : Int) then
 let y19 : List (UInt8) := ((r3.1.1.drop ((0 : Int) : Int).toNat).take (((IntKind.i64.wrap ((r3.1.1.length : Int) - 1)) : Int).toNat - ((0 : Int) : Int).toNat))
 (Za6 y19).bind fun r20 =>
 (Za0 r3.1.1).bind fun r21 =>
 (b8 0).bind fun u22 =>
 (if r21.1.length + ([u22] : List (UInt8)).length <= 140737488355328 /\ (r21.1.length + ([u22] : List (UInt8)).length) * 1 <= 140737488355328 then
 (Za6 (r21.1 ++ ([u22] : List (UInt8)))).bind fun r23 =>
 some (false, ())
 else none)
 else none))))
 else
 (bif (decide ((r3.1.2.1 : Int) ≠ 0)) then
 (bif (decide ((r3.1.2.1 : Int) = 2)) then
 some ((decide (((r3.1.1.length : Int) : Int) = 0)), ())
 else
 some (false, ()))
 else
 (bif (decide (((r3.1.1.length : Int) : Int) = 0)) then
 some (false, ())
 else
 (Za6 r3.1.1).bind fun r24 =>
 (if 0 <= ((0 : Int) : Int) /\ ((0 : Int) : Int) <= (IntKind.i64.wrap ((r3.1.1.length : Int) - 1)) /\ (IntKind.i64.wrap ((r3.1.1.length : Int) - 1)) <= (r3.1.1.length : Int) then
 let y25 : List (UInt8) := ((r3.1.1.drop ((0 : Int) : Int).toNat).take (((IntKind.i64.wrap ((r3.1.1.length : Int) - 1)) : Int).toNat - ((0 : Int) : Int).toNat))
 (Za6 y25).bind fun r26 =>
 (Za0 r3.1.1).bind fun r27 =>
 (b8 0).bind fun u28 =>
 (if r27.1.length + ([u28] : List (UInt8)).length <= 140737488355328 /\ (r27.1.length + ([u28] : List (UInt8)).length) * 1 <= 140737488355328 then
 (Za6 (r27.1 ++ ([u28] : List (UInt8)))).bind fun r29 =>
 some (false, ())
 else none)
 else none))))
 else
 (bif (decide ((r3.1.2.1 : Int) ≠ 0)) then
 (bif (decide ((r3.1.2.1 : Int) = 2)) then
 some ((decide (((r3.1.1.length : Int) : Int) = 0)), ())
 else
 some (false, ()))
 else
 (bif (decide (((r3.1.1.length : Int) : Int) = 0)) then
 some (false, ())
 else
 (Za6 r3.1.1).bind fun r30 =>
 (if 0 <= ((0 : Int) : Int) /\ ((0 : Int) : Int) <= (IntKind.i64.wrap ((r3.1.1.length : Int) - 1)) /\ (IntKind.i64.wrap ((r3.1.1.length : Int) - 1)) <= (r3.1.1.length : Int) then
 let y31 : List (UInt8) := ((r3.1.1.drop ((0 : Int) : Int).toNat).take (((IntKind.i64.wrap ((r3.1.1.length : Int) - 1)) : Int).toNat - ((0 : Int) : Int).toNat))
 (Za6 y31).bind fun r32 =>
 (Za0 r3.1.1).bind fun r33 =>
 (b8 0).bind fun u34 =>
 (if r33.1.length + ([u34] : List (UInt8)).length <= 140737488355328 /\ (r33.1.length + ([u34] : List (UInt8)).length) * 1 <= 140737488355328 then
 (Za6 (r33.1 ++ ([u34] : List (UInt8)))).bind fun r35 =>
 some (false, ())
 else none)
 else none))))))
noncomputable def ZeE : CE CT Tryd.prog where
 f := 3
 args := [.cod 10]
 hs := []
 res := .val (.one (.bool))
 outs := []
 m := fun d dh => Zb1 d.1
 ok := ZbA ZaT Tryd.func3 (by kernel_rfl) (Zai ZeC) (dr := ZeB) (lps := Za8 ZeD) (ZaV (ZaI (by kernel_rfl))) (fun d dh => by kernel_rfl)
end Go.Proofs.YteempnebenjkmaaDoor
