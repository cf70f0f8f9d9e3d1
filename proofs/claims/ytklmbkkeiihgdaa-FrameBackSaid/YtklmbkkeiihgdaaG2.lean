/- The laws. -/
import Derived.Test.YtklmbkkeiihgdaaG1
namespace Go.Proofs.Ytklmbkkeiihgdaa
open Go.RowKit
set_option maxRecDepth 100000
set_option linter.unusedVariables false
def watershedlaw03_FrameBehind_dr : Nat → DrA
  | _ => ⟨[], [], [], [], [], false, []⟩
noncomputable def watershedlaw03_FrameBehind_tb : List (CE CT Try.prog) := [watershedlaw03_awake_ce, watershedlaw03_great_ce, frame_Get_ce, frame_Put_ce, watershedkit_SameBytes_ce, watershedlaw03_equal_ce]
noncomputable def watershedlaw03_FrameBehind_lt : List (LE CT Try.prog) := []
noncomputable def watershedlaw03_FrameBehind (x0 : List (DFrame)) (x1 : List (UInt8)) : Option ((Bool) × (Unit)) :=
  (watershedlaw03_awake).bind fun r1 =>
  (bif (!r1.1) then
  some (false, ())
  else
  (watershedlaw03_great x0).bind fun r2 =>
  (bif r2.1 then
  some (true, ())
  else
  (bif (decide ((8000 : Int) < (x1.length : Int))) then
  some (true, ())
  else
  (frame_Get x1).bind fun r3 =>
  (frame_Put r3.1.1).bind fun r4 =>
  (bif (decide ((r4.1.2.1 : Int) ≠ 0)) then
  some (false, ())
  else
  (bif (decide ((r3.1.2.1 : Int) < 0)) then
  some (false, ())
  else
  (bif (decide (((x1.length : Int) : Int) < r3.1.2.1)) then
  some (false, ())
  else
  (if 0 ≤ ((0 : Int) : Int) ∧ ((0 : Int) : Int) ≤ r3.1.2.1 ∧ r3.1.2.1 ≤ (x1.length : Int) then
  let y5 : List (UInt8) := ((x1.drop ((0 : Int) : Int).toNat).take ((r3.1.2.1 : Int).toNat - ((0 : Int) : Int).toNat))
  (watershedkit_SameBytes r4.1.1 y5).bind fun r6 =>
  (bif (!r6.1) then
  some (false, ())
  else
  (frame_Put x0).bind fun r7 =>
  (bif (decide ((r7.1.2.1 : Int) ≠ 0)) then
  some (true, ())
  else
  (if r7.1.1.length + x1.length ≤ 140737488355328 ∧ (r7.1.1.length + x1.length) * 1 ≤ 140737488355328 then
  (frame_Get (r7.1.1 ++ x1)).bind fun r8 =>
  (bif (decide ((r8.1.2.1 : Int) = (IntKind.i64.wrap ((r7.1.1.length : Int) + r3.1.2.1)))) then
  (if ([] : List (DFrame)).length + x0.length ≤ 140737488355328 ∧ (([] : List (DFrame)).length + x0.length) * 32 ≤ 140737488355328 then
  (if (([] : List (DFrame)) ++ x0).length + r3.1.1.length ≤ 140737488355328 ∧ ((([] : List (DFrame)) ++ x0).length + r3.1.1.length) * 32 ≤ 140737488355328 then
  (watershedlaw03_equal r8.1.1 ((([] : List (DFrame)) ++ x0) ++ r3.1.1)).bind fun r9 =>
  some (r9.1, ())
  else none)
  else none)
  else
  some (false, ()))
  else none)))
  else none)))))))
noncomputable def watershedlaw03_FrameBehind_ce : CE CT Try.prog where
  f := 6
  args := [.one (.sl 6), .one (.sl 1)]
  hs := []
  res := .val (.one (.bool))
  outs := []
  m := fun d dh => watershedlaw03_FrameBehind d.1 d.2.1
  ok := ce_ok mixedP Try.func6 (by kernel_rfl) (orcOf_ok watershedlaw03_FrameBehind_tb) (dr := watershedlaw03_FrameBehind_dr) (lps := lpsOf watershedlaw03_FrameBehind_lt) (lps_fn (no_loop (by kernel_rfl))) (fun d dh => by kernel_rfl)

def watershedlaw03_FrameBack_dr : Nat → DrA
  | 27 => ⟨[], [], [], [], [], true, []⟩
  | 30 => ⟨[0, 1, 2, 3, 4, 5, 6, 7, 8, 9, 10, 11, 12, 13], [[], [0], [], [0, 1, 2], [0, 1, 2, 3], [0, 1, 2, 3, 4], [0, 1, 2, 3, 4], [0, 1, 2, 3, 4, 5, 6], [0, 1, 2, 3, 4], [0, 1, 2, 3, 4], [0, 1, 2, 3, 4, 8, 9], [0, 1, 2, 3, 4, 5, 6, 7, 8, 9, 10], [0, 1, 2, 3, 4, 5, 6, 7, 8, 9, 10, 11], [0, 1, 2, 3, 4, 5, 6, 7, 8, 9, 10, 11, 12]], [], [], [], false, []⟩
  | _ => ⟨[], [], [], [], [], false, []⟩
noncomputable def watershedlaw03_FrameBack_tb : List (CE CT Try.prog) := [watershedlaw03_awake_ce, watershedlaw03_great_ce, frame_Put_ce, frame_Get_ce, watershedlaw03_equal_ce, watershedkit_Pick_ce, frame_Get_g_ce, frame_Get_f_ce]
noncomputable def watershedlaw03_FrameBack_l1 (a : ((List (DFrame)) × (Int) × (List (UInt8)) × (Int) × (Int) × (Int) × Unit) × ((Unit) × Unit)) : Option ((((List (DFrame)) × (Int) × (List (UInt8)) × (Int) × (Int) × (Int) × Unit) × ((Unit) × Unit)) ⊕ ((((List (DFrame)) × (Int) × (List (UInt8)) × (Int) × (Int) × (Int) × Unit) × ((Unit) × (Unit) × Unit)))) :=
  (bif (decide ((a.1.2.2.2.2.1 : Int) < (a.1.1.length : Int))) then
  (getI a.1.1 a.1.2.2.2.2.1).bind fun e1 =>
  (bif (decide (((IntKind.i64.wrap ((IntKind.i64.wrap (a.1.2.2.2.2.2.1 + 9)) + (e1.data.length : Int))) : Int) ≤ a.1.2.2.2.1)) then
  (getI a.1.1 a.1.2.2.2.2.1).bind fun e2 =>
  let y3 : Int := (IntKind.i64.wrap ((IntKind.i64.wrap (a.1.2.2.2.2.2.1 + 9)) + (e2.data.length : Int)))
  some (.inl ((a.1.1, a.1.2.1, a.1.2.2.1, a.1.2.2.2.1, (IntKind.i64.wrap (a.1.2.2.2.2.1 + 1)), y3, ()), ((), ())))
  else
  some (.inr ((a.1.1, a.1.2.1, a.1.2.2.1, a.1.2.2.2.1, a.1.2.2.2.2.1, a.1.2.2.2.2.2.1, ()), ((), (), ()))))
  else
  some (.inr ((a.1.1, a.1.2.1, a.1.2.2.1, a.1.2.2.2.1, a.1.2.2.2.2.1, a.1.2.2.2.2.2.1, ()), ((), (), ()))))
noncomputable def watershedlaw03_FrameBack_e1 : LE CT Try.prog := ⟨13, [0, 2, 7, 11, 12, 13], [.one (.sl 6), .one (.int .i64), .one (.own 1 0), .one (.int .i64), .one (.int .i64), .one (.int .i64)], [.row 5 1], [⟨.exit 0, [0, 2, 7, 11, 12, 13], [.one (.sl 6), .one (.int .i64), .one (.own 1 1), .one (.int .i64), .one (.int .i64), .one (.int .i64)], [.dead, .row 5 1]⟩], watershedlaw03_FrameBack_l1⟩
noncomputable def watershedlaw03_FrameBack_l2 (a : ((List (DFrame)) × (List (UInt8)) × (Int) × (Int) × (Int) × Unit) × ((Unit) × Unit)) : Option ((((List (DFrame)) × (List (UInt8)) × (Int) × (Int) × (Int) × Unit) × ((Unit) × Unit)) ⊕ ((((List (DFrame)) × (List (UInt8)) × (Int) × (Int) × (Int) × Unit) × ((Unit) × (Unit) × Unit)))) :=
  (getI a.1.1 a.1.2.2.1).bind fun e1 =>
  (bif (decide (((IntKind.i64.wrap ((IntKind.i64.wrap (a.1.2.2.2.1 + 9)) + (e1.data.length : Int))) : Int) ≤ (IntKind.i64.wrap ((a.1.2.2.2.2.1 : Int).tdiv 8)))) then
  (getI a.1.1 a.1.2.2.1).bind fun e2 =>
  let y3 : Int := (IntKind.i64.wrap ((IntKind.i64.wrap (a.1.2.2.2.1 + 9)) + (e2.data.length : Int)))
  some (.inl ((a.1.1, a.1.2.1, (IntKind.i64.wrap (a.1.2.2.1 + 1)), y3, a.1.2.2.2.2.1, ()), ((), ())))
  else
  some (.inr ((a.1.1, a.1.2.1, a.1.2.2.1, a.1.2.2.2.1, a.1.2.2.2.2.1, ()), ((), (), ()))))
noncomputable def watershedlaw03_FrameBack_e2 : LE CT Try.prog := ⟨24, [0, 7, 12, 13, 16], [.one (.sl 6), .one (.own 1 0), .one (.int .i64), .one (.int .i64), .one (.int .i64)], [.row 5 1], [⟨.exit 2, [0, 7, 12, 13, 16], [.one (.sl 6), .one (.own 1 1), .one (.int .i64), .one (.int .i64), .one (.int .i64)], [.dead, .row 5 1]⟩], watershedlaw03_FrameBack_l2⟩
noncomputable def watershedlaw03_FrameBack_lt : List (LE CT Try.prog) := [watershedlaw03_FrameBack_e1, watershedlaw03_FrameBack_e2]
theorem watershedlaw03_FrameBack_e1_ok : LeOk watershedlaw03_FrameBack_e1 (nthL (bodyOf Try.f5) 0) := fun A env h k z hk => le_ok (E := watershedlaw03_FrameBack_e1) (orcOf_ok watershedlaw03_FrameBack_tb) (dr := watershedlaw03_FrameBack_dr) (lps := lpsOf watershedlaw03_FrameBack_lt) (no_loop (by kernel_rfl)) (fun a => by kernel_rfl) env h k z hk
theorem watershedlaw03_FrameBack_e2_ok : LeOk watershedlaw03_FrameBack_e2 (nthL (bodyOf Try.f5) 1) := fun A env h k z hk => le_ok (E := watershedlaw03_FrameBack_e2) (orcOf_ok watershedlaw03_FrameBack_tb) (dr := watershedlaw03_FrameBack_dr) (lps := lpsOf watershedlaw03_FrameBack_lt) (no_loop (by kernel_rfl)) (fun a => by kernel_rfl) env h k z hk
noncomputable def watershedlaw03_FrameBack (x0 : List (DFrame)) (x1 : Int) (x2 : Int) : Option ((Bool) × (Unit)) :=
  (watershedlaw03_awake).bind fun r1 =>
  (bif (!r1.1) then
  some (false, ())
  else
  (watershedlaw03_great x0).bind fun r2 =>
  (bif r2.1 then
  some (true, ())
  else
  (frame_Put x0).bind fun r3 =>
  (bif (decide ((r3.1.2.1 : Int) ≠ 0)) then
  some ((decide (((r3.1.1.length : Int) : Int) = 0)), ())
  else
  (frame_Get r3.1.1).bind fun r4 =>
  (watershedlaw03_equal r4.1.1 x0).bind fun r5 =>
  (bif (!r5.1) then
  some (false, ())
  else
  (bif (decide ((r4.1.2.1 : Int) ≠ (r3.1.1.length : Int))) then
  some (false, ())
  else
  (watershedkit_Pick x1 (IntKind.i64.wrap ((r3.1.1.length : Int) + 1))).bind fun r6 =>
  (loopM watershedlaw03_FrameBack_l1 ((x0, x2, r3.1.1, r6.1, 0, 0, ()), ((), ()))).bind fun b7 =>
  (if 0 ≤ ((0 : Int) : Int) ∧ ((0 : Int) : Int) ≤ b7.1.2.2.2.1 ∧ b7.1.2.2.2.1 ≤ (b7.1.2.2.1.length : Int) then
  let y8 : List (UInt8) := ((b7.1.2.2.1.drop ((0 : Int) : Int).toNat).take ((b7.1.2.2.2.1 : Int).toNat - ((0 : Int) : Int).toNat))
  (frame_Get y8).bind fun r9 =>
  (if 0 ≤ ((0 : Int) : Int) ∧ ((0 : Int) : Int) ≤ b7.1.2.2.2.2.1 ∧ b7.1.2.2.2.2.1 ≤ (b7.1.1.length : Int) then
  let y10 : List (DFrame) := ((b7.1.1.drop ((0 : Int) : Int).toNat).take ((b7.1.2.2.2.2.1 : Int).toNat - ((0 : Int) : Int).toNat))
  (watershedlaw03_equal r9.1.1 y10).bind fun r11 =>
  (bif (!r11.1) then
  some (false, ())
  else
  (bif (decide ((r9.1.2.1 : Int) ≠ b7.1.2.2.2.2.2.1)) then
  some (false, ())
  else
  (bif (decide (((b7.1.2.2.1.length : Int) : Int) = 0)) then
  some (true, ())
  else
  (watershedkit_Pick b7.1.2.1 (IntKind.i64.wrap (8 * (b7.1.2.2.1.length : Int)))).bind fun r12 =>
  (loopM watershedlaw03_FrameBack_l2 ((b7.1.1, b7.1.2.2.1, 0, 0, r12.1, ()), ((), ()))).bind fun b13 =>
  (if (0 + b13.1.2.1.length) ≤ 140737488355328 ∧ (0 + b13.1.2.1.length) * 1 ≤ 140737488355328 ∧ 0 + 0 ≤ ([] : List (UInt8)).length then
  (if (0 + b13.1.2.1.length) ≤ 0 then
  let y14 : List (UInt8) := (([] : List (UInt8)).take (0 + 0) ++ b13.1.2.1 ++ ([] : List (UInt8)).drop (0 + 0 + b13.1.2.1.length))
  (if 0 ≤ ((IntKind.i64.wrap ((b13.1.2.2.2.2.1 : Int).tdiv 8)) : Int) ∧ ((IntKind.i64.wrap ((b13.1.2.2.2.2.1 : Int).tdiv 8)) : Int) < (((0 + b13.1.2.1.length) : Nat) : Int) then
  (y14[(0 + ((IntKind.i64.wrap ((b13.1.2.2.2.2.1 : Int).tdiv 8)) : Int).toNat)]?).bind fun e15 =>
  (if ((IntKind.u64.wrap ((b13.1.2.2.2.2.1 : Int).tmod 8)) : Int) < 0 then none else
  (if 0 ≤ ((IntKind.i64.wrap ((b13.1.2.2.2.2.1 : Int).tdiv 8)) : Int) ∧ ((IntKind.i64.wrap ((b13.1.2.2.2.2.1 : Int).tdiv 8)) : Int) < (((0 + b13.1.2.1.length) : Nat) : Int) then
  (y14[(0 + ((IntKind.i64.wrap ((b13.1.2.2.2.2.1 : Int).tdiv 8)) : Int).toNat)]?).bind fun e16 =>
  (b8 (IntKind.u8.wrap ((BitVec.ofInt (IntKind.u8.bits) (e15.toNat : Int) ^^^ BitVec.ofInt (IntKind.u8.bits) (IntKind.u8.wrap (1 * 2 ^ min ((IntKind.u64.wrap ((b13.1.2.2.2.2.1 : Int).tmod 8)) : Int).toNat (IntKind.u8.bits)))).toNat))).bind fun u17 =>
  let y18 : List (UInt8) := (y14.set (0 + ((IntKind.i64.wrap ((b13.1.2.2.2.2.1 : Int).tdiv 8)) : Int).toNat) u17)
  (frame_Get_g (0, (0 + b13.1.2.1.length), 0) y18).bind fun r19 =>
  (bif (decide (((r19.1.1.length : Int) : Int) < b13.1.2.2.1)) then
  some (false, ())
  else
  (if 0 ≤ ((0 : Int) : Int) ∧ ((0 : Int) : Int) ≤ b13.1.2.2.1 ∧ b13.1.2.2.1 ≤ (r19.1.1.length : Int) then
  let y20 : List (DFrame) := ((r19.1.1.drop ((0 : Int) : Int).toNat).take ((b13.1.2.2.1 : Int).toNat - ((0 : Int) : Int).toNat))
  (if 0 ≤ ((0 : Int) : Int) ∧ ((0 : Int) : Int) ≤ b13.1.2.2.1 ∧ b13.1.2.2.1 ≤ (b13.1.1.length : Int) then
  let y21 : List (DFrame) := ((b13.1.1.drop ((0 : Int) : Int).toNat).take ((b13.1.2.2.1 : Int).toNat - ((0 : Int) : Int).toNat))
  (watershedlaw03_equal y20 y21).bind fun r22 =>
  (bif (!r22.1) then
  some (false, ())
  else
  (bif (decide (((IntKind.i64.wrap ((IntKind.i64.wrap ((b13.1.2.2.2.2.1 : Int).tdiv 8)) - b13.1.2.2.2.1)) : Int) < 4)) then
  some (true, ())
  else
  (bif (decide (((r19.1.1.length : Int) : Int) = b13.1.2.2.1)) then
  some ((decide ((r19.1.2.1 : Int) = b13.1.2.2.2.1)), ())
  else
  some (false, ()))))
  else none)
  else none))
  else none))
  else none)
  else
  (if 0 ≤ ((IntKind.i64.wrap ((b13.1.2.2.2.2.1 : Int).tdiv 8)) : Int) ∧ ((IntKind.i64.wrap ((b13.1.2.2.2.2.1 : Int).tdiv 8)) : Int) < (((0 + b13.1.2.1.length) : Nat) : Int) then
  (((([] : List (UInt8)).drop 0).take 0 ++ b13.1.2.1)[(0 + ((IntKind.i64.wrap ((b13.1.2.2.2.2.1 : Int).tdiv 8)) : Int).toNat)]?).bind fun e23 =>
  (if ((IntKind.u64.wrap ((b13.1.2.2.2.2.1 : Int).tmod 8)) : Int) < 0 then none else
  (if 0 ≤ ((IntKind.i64.wrap ((b13.1.2.2.2.2.1 : Int).tdiv 8)) : Int) ∧ ((IntKind.i64.wrap ((b13.1.2.2.2.2.1 : Int).tdiv 8)) : Int) < (((0 + b13.1.2.1.length) : Nat) : Int) then
  (((([] : List (UInt8)).drop 0).take 0 ++ b13.1.2.1)[(0 + ((IntKind.i64.wrap ((b13.1.2.2.2.2.1 : Int).tdiv 8)) : Int).toNat)]?).bind fun e24 =>
  (b8 (IntKind.u8.wrap ((BitVec.ofInt (IntKind.u8.bits) (e23.toNat : Int) ^^^ BitVec.ofInt (IntKind.u8.bits) (IntKind.u8.wrap (1 * 2 ^ min ((IntKind.u64.wrap ((b13.1.2.2.2.2.1 : Int).tmod 8)) : Int).toNat (IntKind.u8.bits)))).toNat))).bind fun u25 =>
  let y26 : List (UInt8) := (((([] : List (UInt8)).drop 0).take 0 ++ b13.1.2.1).set (0 + ((IntKind.i64.wrap ((b13.1.2.2.2.2.1 : Int).tdiv 8)) : Int).toNat) u25)
  (frame_Get_f (0 + b13.1.2.1.length) y26).bind fun r27 =>
  (bif (decide (((r27.1.1.length : Int) : Int) < b13.1.2.2.1)) then
  some (false, ())
  else
  (if 0 ≤ ((0 : Int) : Int) ∧ ((0 : Int) : Int) ≤ b13.1.2.2.1 ∧ b13.1.2.2.1 ≤ (r27.1.1.length : Int) then
  let y28 : List (DFrame) := ((r27.1.1.drop ((0 : Int) : Int).toNat).take ((b13.1.2.2.1 : Int).toNat - ((0 : Int) : Int).toNat))
  (if 0 ≤ ((0 : Int) : Int) ∧ ((0 : Int) : Int) ≤ b13.1.2.2.1 ∧ b13.1.2.2.1 ≤ (b13.1.1.length : Int) then
  let y29 : List (DFrame) := ((b13.1.1.drop ((0 : Int) : Int).toNat).take ((b13.1.2.2.1 : Int).toNat - ((0 : Int) : Int).toNat))
  (watershedlaw03_equal y28 y29).bind fun r30 =>
  (bif (!r30.1) then
  some (false, ())
  else
  (bif (decide (((IntKind.i64.wrap ((IntKind.i64.wrap ((b13.1.2.2.2.2.1 : Int).tdiv 8)) - b13.1.2.2.2.1)) : Int) < 4)) then
  some (true, ())
  else
  (bif (decide (((r27.1.1.length : Int) : Int) = b13.1.2.2.1)) then
  some ((decide ((r27.1.2.1 : Int) = b13.1.2.2.2.1)), ())
  else
  some (false, ()))))
  else none)
  else none))
  else none))
  else none))
  else none))))
  else none)
  else none))))))
noncomputable def watershedlaw03_FrameBack_ce : CE CT Try.prog where
  f := 5
  args := [.one (.sl 6), .one (.int .i64), .one (.int .i64)]
  hs := []
  res := .val (.one (.bool))
  outs := []
  m := fun d dh => watershedlaw03_FrameBack d.1 d.2.1 d.2.2.1
  ok := ce_ok mixedP Try.func5 (by kernel_rfl) (orcOf_ok watershedlaw03_FrameBack_tb) (dr := watershedlaw03_FrameBack_dr) (lps := lpsOf watershedlaw03_FrameBack_lt) (lps_fn (lps_of (n := 2) (by kernel_rfl) fun i hi => match i, hi with | 0, _ => lp_ok (E := watershedlaw03_FrameBack_e1) (by kernel_rfl) watershedlaw03_FrameBack_e1_ok | 1, _ => lp_ok (E := watershedlaw03_FrameBack_e2) (by kernel_rfl) watershedlaw03_FrameBack_e2_ok)) (fun d dh => by kernel_rfl)
end Go.Proofs.Ytklmbkkeiihgdaa
