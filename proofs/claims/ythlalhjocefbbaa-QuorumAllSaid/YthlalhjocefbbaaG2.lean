/- The laws. -/
import Derived.Test.YthlalhjocefbbaaG1
namespace Go.Proofs.Ythlalhjocefbbaa
open Go.RowKit
set_option maxRecDepth 100000
set_option linter.unusedVariables false
def watershedlaw06_QuorumTells_dr : Nat → DrA
  | 10 => ⟨[0, 1, 2, 3, 4, 5, 6, 7, 8, 9, 10, 11, 12, 13, 14, 15, 16, 17, 18, 19, 20, 21, 23, 22, 24, 25, 26, 27, 29, 32, 28, 31, 30, 33, 34, 35], [[], [], [0, 1], [0, 1, 2], [0, 1, 2, 3], [0, 1, 2, 3], [0, 1, 2, 3, 4, 5], [0, 1, 2, 3, 4, 5, 6], [0, 1, 2, 3, 4, 5, 6, 7], [0, 1, 2, 3, 4, 5, 6, 7, 8], [0, 1, 2, 3, 4, 5, 6, 7, 8], [0, 1, 2, 3, 4, 5, 6, 7, 8, 9, 10], [0, 1, 2, 3, 4, 5, 6, 7, 8, 9, 10, 11], [0, 1, 2, 3, 4, 5, 6, 7, 8, 9, 10, 11, 12], [0, 1, 2, 3, 4, 5, 6, 7, 8, 9, 10, 11, 12, 13], [0, 1, 2, 3, 4, 5, 6, 7, 8, 9, 10, 11, 12, 13, 14], [0, 1, 2, 3, 4, 5, 6, 7, 8, 9, 10, 11, 12, 13, 14], [0, 1, 2, 3, 4, 5, 6, 7, 8, 9, 10, 11, 12, 13, 14, 15, 16], [0, 1, 2, 3, 4, 5, 6, 7, 8, 9, 10, 11, 12, 13, 14, 15, 16, 17], [0, 1, 2, 3, 4, 5, 6, 7, 8, 9, 10, 11, 12, 13, 14, 15, 16, 17, 18], [0, 1, 2, 3, 4, 5, 6, 7, 8, 9, 10, 11, 12, 13, 14, 15, 16, 17, 18, 19], [0, 1, 2, 3, 4, 5, 6, 7, 8, 9, 10, 11, 12, 13, 14, 15, 16, 17, 18, 19, 20], [0, 1, 2, 3, 4, 5, 6, 7, 8, 9, 10, 11, 12, 13, 14, 15, 16, 17, 18, 19, 20, 21], [0, 1, 2, 3, 4, 5, 6, 7, 8, 9, 10, 11, 12, 13, 14, 15, 16, 17, 18, 19, 20], [0, 1, 2, 3, 4, 5, 6, 7, 8, 9, 10, 11, 12, 13, 14, 15, 16, 17, 18, 19, 20, 21, 22, 23], [0, 1, 2, 3, 4, 5, 6, 7, 8, 9, 10, 11, 12, 13, 14, 15, 16, 17, 18, 19, 20, 21, 22, 23, 24], [0, 1, 2, 3, 4, 5, 6, 7, 8, 9, 10, 11, 12, 13, 14, 15, 16, 17, 18, 19, 20, 21, 22, 23, 24, 25], [0, 1, 2, 3, 4, 5, 6, 7, 8, 9, 10, 11, 12, 13, 14, 15, 16, 17, 18, 19, 20, 21, 22, 23, 24, 25, 26], [0, 1, 2, 3, 4, 5, 6, 7, 8, 9, 10, 11, 12, 13, 14, 15, 16, 17, 18, 19, 20, 21, 22, 23, 24, 25, 26, 27], [0, 1, 2, 3, 4, 5, 6, 7, 8, 9, 10, 11, 12, 13, 14, 15, 16, 17, 18, 19, 20, 21, 22, 23, 24, 25, 26, 27], [0, 1, 2, 3, 4, 5, 6, 7, 8, 9, 10, 11, 12, 13, 14, 15, 16, 17, 18, 19, 20, 21, 22, 23, 24, 25, 26, 27, 28, 29], [0, 1, 2, 3, 4, 5, 6, 7, 8, 9, 10, 11, 12, 13, 14, 15, 16, 17, 18, 19, 20, 21, 22, 23, 24, 25, 26, 27], [0, 1, 2, 3, 4, 5, 6, 7, 8, 9, 10, 11, 12, 13, 14, 15, 16, 17, 18, 19, 20, 21, 22, 23, 24, 25, 26, 27], [0, 1, 2, 3, 4, 5, 6, 7, 8, 9, 10, 11, 12, 13, 14, 15, 16, 17, 18, 19, 20, 21, 22, 23, 24, 25, 26, 27, 28, 29, 30, 31, 32], [0, 1, 2, 3, 4, 5, 6, 7, 8, 9, 10, 11, 12, 13, 14, 15, 16, 17, 18, 19, 20, 21, 22, 23, 24, 25, 26, 27, 28, 29, 30, 31, 32, 33], [0, 1, 2, 3, 4, 5, 6, 7, 8, 9, 10, 11, 12, 13, 14, 15, 16, 17, 18, 19, 20, 21, 22, 23, 24, 25, 26, 27, 28, 29, 30, 31, 32, 33, 34]], [23, 31], [22, 30], [0], false⟩
  | 12 => ⟨[1, 4, 0, 3, 2, 5, 6, 7, 9, 12, 8, 11, 10, 13, 14, 15, 16, 17, 19, 18, 20, 21, 22, 23], [[], [], [0, 1], [], [], [0, 1, 2, 3, 4], [0, 1, 2, 3, 4, 5], [0, 1, 2, 3, 4, 5, 6], [0, 1, 2, 3, 4, 5, 6, 7], [0, 1, 2, 3, 4, 5, 6, 7], [0, 1, 2, 3, 4, 5, 6, 7, 8, 9], [0, 1, 2, 3, 4, 5, 6, 7], [0, 1, 2, 3, 4, 5, 6, 7], [0, 1, 2, 3, 4, 5, 6, 7, 8, 9, 10, 11, 12], [0, 1, 2, 3, 4, 5, 6, 7, 8, 9, 10, 11, 12, 13], [0, 1, 2, 3, 4, 5, 6, 7, 8, 9, 10, 11, 12, 13, 14], [0, 1, 2, 3, 4, 5, 6, 7, 8, 9, 10, 11, 12, 13, 14, 15], [0, 1, 2, 3, 4, 5, 6, 7, 8, 9, 10, 11, 12, 13, 14, 15, 16], [0, 1, 2, 3, 4, 5, 6, 7, 8, 9, 10, 11, 12, 13, 14, 15, 16, 17], [0, 1, 2, 3, 4, 5, 6, 7, 8, 9, 10, 11, 12, 13, 14, 15, 16], [0, 1, 2, 3, 4, 5, 6, 7, 8, 9, 10, 11, 12, 13, 14, 15, 16, 17, 18, 19], [0, 1, 2, 3, 4, 5, 6, 7, 8, 9, 10, 11, 12, 13, 14, 15, 16, 17, 18, 19, 20], [0, 1, 2, 3, 4, 5, 6, 7, 8, 9, 10, 11, 12, 13, 14, 15, 16, 17, 18, 19, 20, 21], [0, 1, 2, 3, 4, 5, 6, 7, 8, 9, 10, 11, 12, 13, 14, 15, 16, 17, 18, 19, 20, 21, 22]], [3, 11, 19], [2, 10, 18], [0], false⟩
  | _ => ⟨[], [], [], [], [], false⟩
noncomputable def watershedlaw06_QuorumTells_tb : List (CE CT Try.prog) := [watershedlaw06_awake_ce, watershedlaw06_great_ce, watershedkit_LentConfig_ce, watershedkit_LentInts_x_ce, quorum_Begin_ar_ce, watershedref06_Begin_ce, quorum_Next_ar_ce, watershedref06_Next_ce, watershedlaw06_same_2_ce, quorum_Right_ce, watershedref06_Right_ce, quorum_Agrees_ce, watershedref06_Agrees_ce, quorum_Votes_ce, watershedref06_Votes_ce, quorum_Has_ce, watershedref06_Has_ce, quorum_Nodes_ce, watershedref06_Nodes_ce, watershedkit_SameInts_3_ce, watershedkit_OverConfig_ce, watershedkit_KeptConfig_ce, watershedkit_KeptInts_ce]
noncomputable def watershedlaw06_QuorumTells_lt : List (LE CT Try.prog) := []
noncomputable def watershedlaw06_QuorumTells (x0 : DConfig) (x1 : List (Int)) (x2 : Int) : Option ((Bool) × (Unit)) :=
  (watershedlaw06_awake).bind fun r1 =>
  (bif (!r1.1) then
  some (false, ())
  else
  (watershedlaw06_great x0 x1).bind fun r2 =>
  (bif r2.1 then
  some (true, ())
  else
  (watershedkit_LentConfig x0).bind fun r3 =>
  (watershedkit_LentInts_x x1).bind fun r4 =>
  (quorum_Begin_ar (⟨r3.1.1.1, r3.1.2.1.1, r3.1.2.2.1.1, r3.1.2.2.2.1.1⟩ : DConfig) r4.1.1).bind fun r5 =>
  (watershedref06_Begin x0 x1).bind fun r6 =>
  (quorum_Next_ar (⟨r3.1.1.1, r3.1.2.1.1, r3.1.2.2.1.1, r3.1.2.2.2.1.1⟩ : DConfig)).bind fun r7 =>
  (watershedref06_Next x0).bind fun r8 =>
  (bif (decide ((r5.1.2.1 : Int) ≠ r6.1.2.1)) then
  some (false, ())
  else
  (bif (decide (r7.1.2.1 ≠ r8.1.2.1)) then
  some (false, ())
  else
  (watershedlaw06_same_2 (r5.1.1.1, r5.1.1.2.1, r5.1.1.2.2.1, r5.1.1.2.2.2.1, ()) r6.1.1 r5.2.1 r5.2.2.1 r5.2.2.2.1 r5.2.2.2.2.1).bind fun r9 =>
  (bif (!r9.1) then
  some (false, ())
  else
  (watershedlaw06_same_2 (r7.1.1.1, r7.1.1.2.1, r7.1.1.2.2.1, r7.1.1.2.2.2.1, ()) r8.1.1 r7.2.1 r7.2.2.1 r7.2.2.2.1 r7.2.2.2.2.1).bind fun r10 =>
  (bif (!r10.1) then
  some (false, ())
  else
  (quorum_Right (⟨r3.1.1.1, r3.1.2.1.1, r3.1.2.2.1.1, r3.1.2.2.2.1.1⟩ : DConfig)).bind fun r11 =>
  (watershedref06_Right x0).bind fun r12 =>
  (bif (decide (r11.1 ≠ r12.1)) then
  some (false, ())
  else
  (quorum_Agrees (⟨r3.1.1.1, r3.1.2.1.1, r3.1.2.2.1.1, r3.1.2.2.2.1.1⟩ : DConfig) r4.1.1).bind fun r13 =>
  (watershedref06_Agrees x0 x1).bind fun r14 =>
  (bif (decide (r13.1 ≠ r14.1)) then
  some (false, ())
  else
  (quorum_Votes (⟨r3.1.1.1, r3.1.2.1.1, r3.1.2.2.1.1, r3.1.2.2.2.1.1⟩ : DConfig) x2).bind fun r15 =>
  (watershedref06_Votes x0 x2).bind fun r16 =>
  (bif (decide (r15.1 ≠ r16.1)) then
  some (false, ())
  else
  (quorum_Has (⟨r3.1.1.1, r3.1.2.1.1, r3.1.2.2.1.1, r3.1.2.2.2.1.1⟩ : DConfig) x2).bind fun r17 =>
  (watershedref06_Has x0 x2).bind fun r18 =>
  (bif (decide (r17.1 ≠ r18.1)) then
  some (false, ())
  else
  (quorum_Nodes (⟨r3.1.1.1, r3.1.2.1.1, r3.1.2.2.1.1, r3.1.2.2.2.1.1⟩ : DConfig)).bind fun r19 =>
  (watershedref06_Nodes x0).bind fun r20 =>
  (watershedkit_SameInts_3 (r19.1.1, r19.1.2) r20.1 r19.2.1).bind fun r21 =>
  (bif (!r21.1) then
  some (false, ())
  else
  (watershedkit_OverConfig (r5.1.1.1, r5.1.1.2.1, r5.1.1.2.2.1, r5.1.1.2.2.2.1, ()) r9.2.1 r9.2.2.1 r9.2.2.2.1 r9.2.2.2.2.1).bind fun r22 =>
  (watershedkit_OverConfig (r7.1.1.1, r7.1.1.2.1, r7.1.1.2.2.1, r7.1.1.2.2.2.1, ()) r10.2.1 r10.2.2.1 r10.2.2.2.1 r10.2.2.2.2.1).bind fun r23 =>
  (watershedkit_KeptConfig ((r3.1.1.1, r3.1.1.2), (r3.1.2.1.1, r3.1.2.1.2), (r3.1.2.2.1.1, r3.1.2.2.1.2), (r3.1.2.2.2.1.1, r3.1.2.2.2.1.2), ()) x0).bind fun r24 =>
  (bif r24.1 then
  (watershedkit_KeptInts (r4.1.1, r4.1.2) x1).bind fun r25 =>
  some (r25.1, ())
  else
  some (false, ())))))))))))))
noncomputable def watershedlaw06_QuorumTells_ce : CE CT Try.prog where
  f := 5
  args := [.cod 5, .one (.sl 0), .one (.int .i64)]
  hs := []
  res := .val (.one (.bool))
  outs := []
  m := fun d dh => watershedlaw06_QuorumTells d.1 d.2.1 d.2.2.1
  ok := ce_ok mixedP Try.func5 (by kernel_rfl) (orcOf_ok watershedlaw06_QuorumTells_tb) (dr := watershedlaw06_QuorumTells_dr) (lps := lpsOf watershedlaw06_QuorumTells_lt) (lps_fn (no_loop (by kernel_rfl))) (fun d dh => by kernel_rfl)

def watershedlaw06_QuorumAll_dr : Nat → DrA
  | 10 => ⟨[1, 0, 2, 3, 4, 5, 6, 7, 8, 9], [[], [], [1], [0, 1, 2], [0, 1, 2, 3], [0, 1, 2, 3, 4], [0, 1, 2, 3, 4], [], [0, 1, 2, 3, 4, 5, 7], [0, 1, 2, 3, 4, 5, 6, 7, 8]], [0], [2], [1], false⟩
  | 12 => ⟨[3, 5, 7, 10, 12, 15, 17, 0, 1, 2, 4, 6, 8, 9, 11, 13, 14, 16, 18, 19, 20, 21], [[], [], [], [], [3], [], [3, 4, 5], [], [3, 4, 5, 6, 7], [3, 4, 5, 6, 7, 8], [], [3, 4, 5, 6, 7, 8, 10], [], [3, 4, 5, 6, 7, 8, 10, 11, 12], [3, 4, 5, 6, 7, 8, 10, 11, 12, 13], [], [3, 4, 5, 6, 7, 8, 10, 11, 12, 13, 15], [], [3, 4, 5, 6, 7, 8, 10, 11, 12, 13, 15, 16, 17], [3, 4, 5, 6, 7, 8, 10, 11, 12, 13, 15, 16, 17, 18], [0, 1, 2, 3, 4, 5, 6, 7, 8, 9, 10, 11, 12, 13, 14, 15, 16, 17, 18, 19], [0, 1, 2, 3, 4, 5, 6, 7, 8, 9, 10, 11, 12, 13, 14, 15, 16, 17, 18, 19, 20]], [0, 1, 2], [4, 6, 8, 11, 13, 16, 18], [1, 7, 12], false⟩
  | 19 => ⟨[0, 1, 2, 4, 6, 7, 8, 9, 10, 11, 12, 3, 5, 13, 14], [[], [], [0, 1], [0, 1, 2], [], [4], [], [], [6, 7], [], [6, 7, 8, 9], [6, 7, 8, 9, 10], [6, 7, 8, 9, 10, 11], [0, 1, 2, 3, 4, 5, 6, 7, 8, 9, 10, 11, 12], [0, 1, 2, 3, 4, 5, 6, 7, 8, 9, 10, 11, 12, 13]], [3], [5], [], false⟩
  | _ => ⟨[], [], [], [], [], false⟩
noncomputable def watershedlaw06_QuorumAll_tb : List (CE CT Try.prog) := [watershedlaw06_awake_ce, watershedlaw06_row_ce, quorum_Begin_ce, quorum_Next_ce, watershedlaw06_QuorumTells_ce]
noncomputable def watershedlaw06_QuorumAll_l4 (a : ((Int) × (Int) × (List (DConfig)) × (Int) × (Int) × Unit) × ((Unit) × Unit)) : Option ((((Int) × (Int) × (List (DConfig)) × (Int) × (Int) × Unit) × ((Unit) × Unit)) ⊕ ((((Bool) × Unit) × ((Unit) × Unit)) ⊕ (((Int) × (Int) × (List (DConfig)) × (Int) × Unit) × ((Unit) × (Unit) × Unit)))) :=
  (bif (decide ((a.1.2.2.2.2.1 : Int) < 16)) then
  (getI a.1.2.2.1 a.1.2.2.2.1).bind fun e1 =>
  (watershedlaw06_row a.1.2.2.2.2.1).bind fun r2 =>
  (watershedlaw06_QuorumTells e1 r2.1 (IntKind.i64.wrap (1 + (((IntKind.i64.wrap ((IntKind.i64.wrap (a.1.1 + a.1.2.1)) + a.1.2.2.2.2.1)) : Int).tmod 4)))).bind fun r3 =>
  (bif (!r3.1) then
  some (.inr (.inl ((false, ()), ((), ()))))
  else
  let y4 : Int := (IntKind.i64.wrap ((IntKind.i64.wrap (a.1.2.2.2.2.1 + 1)) + (IntKind.i64.wrap ((a.1.2.2.2.1 : Int).tdiv 3))))
  some (.inl ((a.1.1, a.1.2.1, a.1.2.2.1, a.1.2.2.2.1, y4, ()), ((), ()))))
  else
  some (.inr (.inr ((a.1.1, a.1.2.1, a.1.2.2.1, a.1.2.2.2.1, ()), ((), (), ())))))
noncomputable def watershedlaw06_QuorumAll_e4 : LE CT Try.prog := ⟨17, [1, 2, 8, 9, 10], [.one (.int .i64), .one (.int .i64), .one (.own 5 0), .one (.int .i64), .one (.int .i64)], [.row 24 4], [⟨.ret, [0], [.one (.bool)], [.dead]⟩, ⟨.exit 6, [1, 2, 8, 9], [.one (.int .i64), .one (.int .i64), .one (.own 5 1), .one (.int .i64)], [.dead, .row 24 4]⟩], watershedlaw06_QuorumAll_l4⟩
noncomputable def watershedlaw06_QuorumAll_l3 (a : ((Int) × (Int) × (List (DConfig)) × (Int) × Unit) × ((Unit) × Unit)) : Option ((((Int) × (Int) × (List (DConfig)) × (Int) × Unit) × ((Unit) × Unit)) ⊕ ((((Bool) × Unit) × ((Unit) × Unit)) ⊕ (((Int) × (Int) × Unit) × ((Unit) × Unit)))) :=
  (bif (decide ((a.1.2.2.2.1 : Int) < (a.1.2.2.1.length : Int))) then
  (loopM watershedlaw06_QuorumAll_l4 ((a.1.1, a.1.2.1, a.1.2.2.1, a.1.2.2.2.1, 0, ()), ((), ()))).bind fun b1 =>
  (match b1 with
  | .inl b2 =>
  some (.inr (.inl ((b2.1.1, ()), ((), ()))))
  | .inr b3 =>
  some (.inl ((b3.1.1, b3.1.2.1, b3.1.2.2.1, (IntKind.i64.wrap (b3.1.2.2.2.1 + 1)), ()), ((), ()))))
  else
  some (.inr (.inr ((a.1.1, a.1.2.1, ()), ((), ())))))
noncomputable def watershedlaw06_QuorumAll_e3 : LE CT Try.prog := ⟨14, [1, 2, 8, 9], [.one (.int .i64), .one (.int .i64), .one (.own 5 0), .one (.int .i64)], [.row 24 4], [⟨.ret, [0], [.one (.bool)], [.dead]⟩, ⟨.exit 4, [1, 2], [.one (.int .i64), .one (.int .i64)], [.dead]⟩], watershedlaw06_QuorumAll_l3⟩
noncomputable def watershedlaw06_QuorumAll_l2 (a : ((Int) × (Int) × Unit) × (Unit)) : Option ((((Int) × (Int) × Unit) × (Unit)) ⊕ ((((Bool) × Unit) × (Unit)) ⊕ (((Int) × Unit) × (Unit)))) :=
  (bif (decide ((a.1.2.1 : Int) < 16)) then
  (watershedlaw06_row a.1.1).bind fun r1 =>
  (watershedlaw06_row a.1.2.1).bind fun r2 =>
  (quorum_Begin (⟨r1.1, [], [], []⟩ : DConfig) r2.1).bind fun r3 =>
  (quorum_Next (⟨r3.1.1.1, r3.1.1.2.1, r3.1.1.2.2.1, r3.1.1.2.2.2.1⟩ : DConfig)).bind fun r4 =>
  (watershedlaw06_row a.1.1).bind fun r5 =>
  (watershedlaw06_row a.1.2.1).bind fun r6 =>
  (watershedlaw06_row a.1.1).bind fun r7 =>
  (watershedlaw06_row a.1.1).bind fun r8 =>
  (watershedlaw06_row a.1.2.1).bind fun r9 =>
  (watershedlaw06_row a.1.1).bind fun r10 =>
  (watershedlaw06_row a.1.2.1).bind fun r11 =>
  let y12 : List (DConfig) := ([(⟨r1.1, [], [], []⟩ : DConfig), (⟨r3.1.1.1, r3.1.1.2.1, r3.1.1.2.2.1, r3.1.1.2.2.2.1⟩ : DConfig), (⟨r4.1.1.1, r4.1.1.2.1, r4.1.1.2.2.1, r4.1.1.2.2.2.1⟩ : DConfig), (⟨r5.1, r6.1, [], r7.1⟩ : DConfig), (⟨r8.1, [], r9.1, []⟩ : DConfig), (⟨r10.1, [], [], r11.1⟩ : DConfig)] : List (DConfig))
  (loopM watershedlaw06_QuorumAll_l3 ((a.1.1, a.1.2.1, y12, 0, ()), ((), ()))).bind fun b13 =>
  (match b13 with
  | .inl b14 =>
  some (.inr (.inl ((b14.1.1, ()), ())))
  | .inr b15 =>
  some (.inl ((b15.1.1, (IntKind.i64.wrap (b15.1.2.1 + 1)), ()), ())))
  else
  some (.inr (.inr ((a.1.1, ()), ()))))
noncomputable def watershedlaw06_QuorumAll_e2 : LE CT Try.prog := ⟨7, [1, 2], [.one (.int .i64), .one (.int .i64)], [], [⟨.ret, [0], [.one (.bool)], []⟩, ⟨.exit 2, [1], [.one (.int .i64)], []⟩], watershedlaw06_QuorumAll_l2⟩
noncomputable def watershedlaw06_QuorumAll_l1 (a : ((Int) × Unit) × (Unit)) : Option ((((Int) × Unit) × (Unit)) ⊕ ((((Bool) × Unit) × (Unit)) ⊕ ((Unit) × (Unit)))) :=
  (bif (decide ((a.1.1 : Int) < 16)) then
  (loopM watershedlaw06_QuorumAll_l2 ((a.1.1, 0, ()), ())).bind fun b1 =>
  (match b1 with
  | .inl b2 =>
  some (.inr (.inl ((b2.1.1, ()), ())))
  | .inr b3 =>
  some (.inl (((IntKind.i64.wrap (b3.1.1 + 1)), ()), ())))
  else
  some (.inr (.inr ((), ()))))
noncomputable def watershedlaw06_QuorumAll_e1 : LE CT Try.prog := ⟨4, [1], [.one (.int .i64)], [], [⟨.ret, [0], [.one (.bool)], []⟩, ⟨.exit 0, [], [], []⟩], watershedlaw06_QuorumAll_l1⟩
noncomputable def watershedlaw06_QuorumAll_lt : List (LE CT Try.prog) := [watershedlaw06_QuorumAll_e4, watershedlaw06_QuorumAll_e3, watershedlaw06_QuorumAll_e2, watershedlaw06_QuorumAll_e1]
theorem watershedlaw06_QuorumAll_e4_ok : LeOk watershedlaw06_QuorumAll_e4 (nthL (nthL (nthL (nthL (bodyOf Try.f6) 0) 0) 0) 0) := fun A env h k z hk => le_ok (E := watershedlaw06_QuorumAll_e4) (orcOf_ok watershedlaw06_QuorumAll_tb) (dr := watershedlaw06_QuorumAll_dr) (lps := lpsOf watershedlaw06_QuorumAll_lt) (no_loop (by kernel_rfl)) (fun a => by kernel_rfl) env h k z hk
theorem watershedlaw06_QuorumAll_e3_ok : LeOk watershedlaw06_QuorumAll_e3 (nthL (nthL (nthL (bodyOf Try.f6) 0) 0) 0) := fun A env h k z hk => le_ok (E := watershedlaw06_QuorumAll_e3) (orcOf_ok watershedlaw06_QuorumAll_tb) (dr := watershedlaw06_QuorumAll_dr) (lps := lpsOf watershedlaw06_QuorumAll_lt) (lps_of (n := 1) (by kernel_rfl) fun i hi => match i, hi with | 0, _ => lp_ok (E := watershedlaw06_QuorumAll_e4) (by kernel_rfl) watershedlaw06_QuorumAll_e4_ok) (fun a => by kernel_rfl) env h k z hk
theorem watershedlaw06_QuorumAll_e2_ok : LeOk watershedlaw06_QuorumAll_e2 (nthL (nthL (bodyOf Try.f6) 0) 0) := fun A env h k z hk => le_ok (E := watershedlaw06_QuorumAll_e2) (orcOf_ok watershedlaw06_QuorumAll_tb) (dr := watershedlaw06_QuorumAll_dr) (lps := lpsOf watershedlaw06_QuorumAll_lt) (lps_of (n := 1) (by kernel_rfl) fun i hi => match i, hi with | 0, _ => lp_ok (E := watershedlaw06_QuorumAll_e3) (by kernel_rfl) watershedlaw06_QuorumAll_e3_ok) (fun a => by kernel_rfl) env h k z hk
theorem watershedlaw06_QuorumAll_e1_ok : LeOk watershedlaw06_QuorumAll_e1 (nthL (bodyOf Try.f6) 0) := fun A env h k z hk => le_ok (E := watershedlaw06_QuorumAll_e1) (orcOf_ok watershedlaw06_QuorumAll_tb) (dr := watershedlaw06_QuorumAll_dr) (lps := lpsOf watershedlaw06_QuorumAll_lt) (lps_of (n := 1) (by kernel_rfl) fun i hi => match i, hi with | 0, _ => lp_ok (E := watershedlaw06_QuorumAll_e2) (by kernel_rfl) watershedlaw06_QuorumAll_e2_ok) (fun a => by kernel_rfl) env h k z hk
noncomputable def watershedlaw06_QuorumAll  : Option ((Bool) × (Unit)) :=
  (watershedlaw06_awake).bind fun r1 =>
  (bif (!r1.1) then
  some (false, ())
  else
  (loopM watershedlaw06_QuorumAll_l1 ((0, ()), ())).bind fun b2 =>
  (match b2 with
  | .inl b3 =>
  some (b3.1.1, ())
  | .inr b4 =>
  some (true, ())))
noncomputable def watershedlaw06_QuorumAll_ce : CE CT Try.prog where
  f := 6
  args := []
  hs := []
  res := .val (.one (.bool))
  outs := []
  m := fun d dh => watershedlaw06_QuorumAll
  ok := ce_ok mixedP Try.func6 (by kernel_rfl) (orcOf_ok watershedlaw06_QuorumAll_tb) (dr := watershedlaw06_QuorumAll_dr) (lps := lpsOf watershedlaw06_QuorumAll_lt) (lps_fn (lps_of (n := 1) (by kernel_rfl) fun i hi => match i, hi with | 0, _ => lp_ok (E := watershedlaw06_QuorumAll_e1) (by kernel_rfl) watershedlaw06_QuorumAll_e1_ok)) (fun d dh => by kernel_rfl)
end Go.Proofs.Ythlalhjocefbbaa
