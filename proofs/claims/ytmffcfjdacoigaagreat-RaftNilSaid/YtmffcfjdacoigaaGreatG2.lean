/- The laws. -/
import Derived.Test.YtmffcfjdacoigaaGreatG1
namespace Go.Proofs.YtmffcfjdacoigaaGreat
noncomputable section
open Go.RowKit
set_option maxRecDepth 100000
set_option linter.unusedVariables false
def wl_RaftNil_dr : Nat → Nat → DrA
  | 10, _ => ⟨[0, 1, 2, 4, 3, 5, 6, 7, 8, 9, 10, 11, 12, 13], [[], [], [0, 1], [0, 1, 2], [], [4], (List.range 6), (List.range 7), (List.range 8), (List.range 8), (List.range 8), (List.range 9), (List.range 10 ++ [11]), (List.range 13)], [], [], [], false, []⟩
  | 11, _ => ⟨[0, 1, 2, 4, 3, 5, 6, 7, 8, 9, 10, 11], [[], [], [0, 1], [0, 1, 2], [], [4], (List.range 6), (List.range 7), (List.range 8), (List.range 8), (List.range 9), (List.range 11)], [], [], [], false, []⟩
  | 13, _ => ⟨(List.range 29 ++ [31, 29, 30, 32, 33, 34, 35, 36, 37, 39, 38, 40, 41, 42, 43, 44, 45, 46, 47, 48, 50, 49, 51, 52, 53, 54, 55, 56, 57, 58, 59, 61, 60, 62, 63, 64, 65, 66, 67, 68, 70, 69, 71, 72, 73]), [[], [0], [0, 1], [0, 1, 2], [0, 1, 2, 3], [0, 1, 2], [0, 1, 2, 5], (List.range 7), (List.range 8), (List.range 9), (List.range 10), (List.range 11), (List.range 12), (List.range 13), (List.range 14), (List.range 15), (List.range 16), (List.range 17), (List.range 18), (List.range 19), (List.range 20), (List.range 21), (List.range 22), (List.range 23), (List.range 24), (List.range 25), (List.range 26), (List.range 26), (List.range 28), (List.range 29), (List.range 30), (List.range 26), (List.range 32), (List.range 33), (List.range 34), (List.range 35), (List.range 35), (List.range 37), (List.range 38), (List.range 35), (List.range 35 ++ [39]), (List.range 41), (List.range 42), (List.range 43), (List.range 44), (List.range 45), (List.range 46), (List.range 46), (List.range 48), (List.range 49), (List.range 46), (List.range 46 ++ [50]), (List.range 52), (List.range 53), (List.range 54), (List.range 55), (List.range 56), (List.range 57), (List.range 57), (List.range 59), (List.range 60), (List.range 57), (List.range 57 ++ [61]), (List.range 63), (List.range 64), (List.range 65), (List.range 66), (List.range 66), (List.range 68), (List.range 69), (List.range 66), (List.range 66 ++ [70]), (List.range 72), (List.range 73)], [], [], [], false, []⟩
  | _, _ => ⟨[], [], [], [], [], false, []⟩
def wl_RaftNil_tb : List (CEp) := [wl_awake_ce, wl_great_ce, raft_Propose_ce, raft_Change_ce, raft_Kept_ce, raft_State_2_ce, raft_Tick_2_ce, raft_Letter_ce, raft_Install_ce, raft_Compact_ce, raft_Propose_2_ce, raft_Change_2_ce, raft_Kept_2_ce, raft_State_3_ce, raft_Tick_3_ce, raft_Letter_2_ce, raft_Install_2_ce, raft_Compact_2_ce, raft_New_2_ce, raft_New_3_ce]
def wl_RaftNil_us : List (Code × Nat) := [((nthL (bodyOf Tryz.f4) 0), 4)]
def wl_RaftNil (x0 : DCall) : Option (Bool × Unit) :=
  (wl_awake).bind fun r1 =>
  (bif (!r1.1) then
  some (false, ())
  else
  (wl_great ([x0] : List (DCall))).bind fun r2 =>
  (bif r2.1 then
  some (true, ())
  else
  (raft_Propose x0.rows).bind fun r3 =>
  (raft_Change x0.want).bind fun r4 =>
  (raft_Kept).bind fun r5 =>
  (bif (decide ((r3.1.1 : Int) ≠ 0)) then
  some (false, ())
  else
  (bif (decide ((r3.1.2.2.1 : Int) ≠ 1)) then
  some (false, ())
  else
  (bif (decide ((r4.1.2.1 : Int) ≠ 1)) then
  some (false, ())
  else
  (bif r5.1.1 then
  some (false, ())
  else
  (bif (decide ((r5.1.2.1 : Int) ≠ 0)) then
  some (false, ())
  else
  (raft_State_2).bind fun r6 =>
  (bif (!(decide ((r6.1.id : Int) = 0) && (decide ((r6.1.term_ : Int) = 0) && (decide ((r6.1.vote : Int) = 0) && (decide ((r6.1.role : Int) = 0) && (decide ((r6.1.lead : Int) = 0) && (decide ((r6.1.commit : Int) = 0) && true))))))) then
  some (false, ())
  else
  (raft_Tick_2 x0.n).bind fun r7 =>
  (raft_Letter x0.letter).bind fun r8 =>
  (raft_Install x0.base).bind fun r9 =>
  (bif r9.1 then
  some (false, ())
  else
  (raft_Compact x0.n).bind fun r10 =>
  (bif r10.1 then
  some (false, ())
  else
  (raft_Propose_2 x0.rows (0, 0, 0, 0, 0, 0, 0, 0, 0, (), [], 0, 0, 0, 0, 0, 0, 0, 0, 0, 0, 0, 0, 0, 0, 0, 0, 0, 0, 0, 0, 0, 0, 0, 0, false, 0, ())).bind fun r11 =>
  (raft_Change_2 x0.want r11.2.1).bind fun r12 =>
  (raft_Kept_2 r12.2.1).bind fun r13 =>
  (bif (decide ((r11.1.1 : Int) ≠ 0)) then
  some (false, ())
  else
  (bif (decide ((r11.1.2.2.1 : Int) ≠ 1)) then
  some (false, ())
  else
  (bif (decide ((r12.1.2.1 : Int) ≠ 1)) then
  some (false, ())
  else
  (bif r13.1.1 then
  some (false, ())
  else
  (bif (decide ((r13.1.2.1 : Int) ≠ 0)) then
  some (false, ())
  else
  (raft_State_3 r13.2.1).bind fun r14 =>
  (bif (!(decide ((r14.1.id : Int) = 0) && (decide ((r14.1.term_ : Int) = 0) && (decide ((r14.1.vote : Int) = 0) && (decide ((r14.1.role : Int) = 0) && (decide ((r14.1.lead : Int) = 0) && (decide ((r14.1.commit : Int) = 0) && true))))))) then
  some (false, ())
  else
  (raft_Tick_3 x0.n r14.2.1).bind fun r15 =>
  (raft_Letter_2 x0.letter r15.2.1).bind fun r16 =>
  (raft_Install_2 x0.base r16.2.1).bind fun r17 =>
  (bif r17.1 then
  some (false, ())
  else
  (raft_Compact_2 x0.n r17.2.1).bind fun r18 =>
  (bif r18.1 then
  some (false, ())
  else
  (raft_New_2 1 0 0).bind fun r19 =>
  (raft_New_3 1 0 0 (0, 0, [], [], [], [], false, [], ())).bind fun r20 =>
  some (true, ())))))))))))))))))))
def wl_RaftNil_ce : CEp where
  f := 4
  args := [.cod 13]
  hs := []
  res := .val (.one (.bool))
  outs := []
  m := fun d dh => wl_RaftNil d.1
  ok := ce_ok mixedP Tryz.func4 (by kernel_rfl) (orcOf_ok wl_RaftNil_tb) (dr := wl_RaftNil_dr) (lps := lpsU CT Tryz.prog (touOf wl_RaftNil_tb) (orcOf wl_RaftNil_tb) wl_RaftNil_dr (lpsOf lt0) wl_RaftNil_us) (lps_fn (lps_of (n := 1) (by kernel_rfl) fun i hi => match i, hi with | 0, _ => lpsU_hit (n := 4) (orcOf_ok wl_RaftNil_tb) (no_loop (by kernel_rfl)) (by kernel_rfl))) (fun d dh => by kernel_rfl)
end
end Go.Proofs.YtmffcfjdacoigaaGreat
