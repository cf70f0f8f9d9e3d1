/- Models, by program. -/
import Derived.Test.YthlalhjocefbbaaTb
namespace Go.Proofs.Ythlalhjocefbbaa
open Go.RowKit
set_option maxRecDepth 100000
set_option linter.unusedVariables false
def quorum_rise1_dr : Nat → DrA
  | _ => ⟨[], [], [], [], []⟩
noncomputable def quorum_rise1_tb : List (CE CT Try.prog) := []
noncomputable def quorum_rise1_l1 (a : ((List (Int)) × (List (Int)) × (Int) × (Int) × Unit) × (Unit)) : Option ((((List (Int)) × (List (Int)) × (Int) × (Int) × Unit) × (Unit)) ⊕ ((((Bool) × Unit) × (Unit)) ⊕ ((Unit) × (Unit)))) :=
  (bif (decide ((a.1.2.2.2.1 : Int) < a.1.2.2.1)) then
  (getI a.1.2.1 a.1.2.2.2.1).bind fun e1 =>
  (bif (decide ((e1 : Int) < 1)) then
  some (.inr (.inl ((true, ()), ())))
  else
  (bif (decide ((5 : Int) < e1)) then
  some (.inr (.inl ((true, ()), ())))
  else
  (bif (decide ((0 : Int) < a.1.2.2.2.1)) then
  (getI a.1.1 (IntKind.i64.wrap (a.1.2.2.2.1 - 1))).bind fun e2 =>
  (bif (decide ((e1 : Int) ≤ e2)) then
  some (.inr (.inl ((true, ()), ())))
  else
  some (.inl ((a.1.1, a.1.2.1, a.1.2.2.1, (IntKind.i64.wrap (a.1.2.2.2.1 + 1)), ()), ())))
  else
  some (.inl ((a.1.1, a.1.2.1, a.1.2.2.1, (IntKind.i64.wrap (a.1.2.2.2.1 + 1)), ()), ())))))
  else
  some (.inr (.inr ((), ()))))
noncomputable def quorum_rise1_e1 : LE CT Try.prog := ⟨2, [0, 5, 6, 7], [.one (.sl 0), .one (.sl 0), .one (.int .i64), .one (.int .i64)], [], [⟨.ret, [2], [.one (.bool)], []⟩, ⟨.exit 0, [], [], []⟩], quorum_rise1_l1⟩
noncomputable def quorum_rise1_lt : List (LE CT Try.prog) := [quorum_rise1_e1]
theorem quorum_rise1_e1_ok : LeOk quorum_rise1_e1 (nthL (bodyOf Try.f53) 0) := fun A env h k z hk => le_ok (E := quorum_rise1_e1) (orcOf_ok quorum_rise1_tb) (dr := quorum_rise1_dr) (lps := lpsOf quorum_rise1_lt) (no_loop (by kernel_rfl)) (fun a => by kernel_rfl) env h k z hk
noncomputable def quorum_rise1 (x0 : List (Int)) : Option ((Bool) × (Unit)) :=
  (loopM quorum_rise1_l1 ((x0, x0, (x0.length : Int), 0, ()), ())).bind fun b1 =>
  (match b1 with
  | .inl b2 =>
  some (b2.1.1, ())
  | .inr b3 =>
  some (false, ()))
noncomputable def quorum_rise1_ce : CE CT Try.prog where
  f := 53
  args := [.one (.sl 0)]
  hs := []
  res := .val (.one (.bool))
  outs := []
  m := fun d dh => quorum_rise1 d.1
  ok := ce_ok mixedP Try.func53 (by kernel_rfl) (orcOf_ok quorum_rise1_tb) (dr := quorum_rise1_dr) (lps := lpsOf quorum_rise1_lt) (lps_fn (lps_of (n := 1) (by kernel_rfl) fun i hi => match i, hi with | 0, _ => lp_ok (E := quorum_rise1_e1) (by kernel_rfl) quorum_rise1_e1_ok)) (fun d dh => by kernel_rfl)

def slices_IndexFunc_dr : Nat → DrA
  | _ => ⟨[], [], [], [], []⟩
noncomputable def slices_IndexFunc_tb : List (CE CT Try.prog) := [quorum_rise1_ce]
noncomputable def slices_IndexFunc_l1 (a : ((List (List (Int))) × (Unit) × (Int) × (Int) × Unit) × (Unit)) : Option ((((List (List (Int))) × (Unit) × (Int) × (Int) × Unit) × (Unit)) ⊕ ((((Int) × Unit) × (Unit)) ⊕ ((Unit) × (Unit)))) :=
  (bif (decide ((a.1.2.2.2.1 : Int) < a.1.2.2.1)) then
  (getI a.1.1 a.1.2.2.2.1).bind fun e1 =>
  (quorum_rise1 e1).bind fun r2 =>
  (bif r2.1 then
  some (.inr (.inl ((a.1.2.2.2.1, ()), ())))
  else
  some (.inl ((a.1.1, (), a.1.2.2.1, (IntKind.i64.wrap (a.1.2.2.2.1 + 1)), ()), ())))
  else
  some (.inr (.inr ((), ()))))
noncomputable def slices_IndexFunc_e1 : LE CT Try.prog := ⟨2, [0, 1, 7, 8], [.one (.sl 3), .one (.fn 53), .one (.int .i64), .one (.int .i64)], [], [⟨.ret, [4], [.one (.int .i64)], []⟩, ⟨.exit 0, [], [], []⟩], slices_IndexFunc_l1⟩
noncomputable def slices_IndexFunc_lt : List (LE CT Try.prog) := [slices_IndexFunc_e1]
theorem slices_IndexFunc_e1_ok : LeOk slices_IndexFunc_e1 (nthL (bodyOf Try.f58) 0) := fun A env h k z hk => le_ok (E := slices_IndexFunc_e1) (orcOf_ok slices_IndexFunc_tb) (dr := slices_IndexFunc_dr) (lps := lpsOf slices_IndexFunc_lt) (no_loop (by kernel_rfl)) (fun a => by kernel_rfl) env h k z hk
noncomputable def slices_IndexFunc (x0 : List (List (Int))) : Option ((Int) × (Unit)) :=
  (loopM slices_IndexFunc_l1 ((x0, (), (x0.length : Int), 0, ()), ())).bind fun b1 =>
  (match b1 with
  | .inl b2 =>
  some (b2.1.1, ())
  | .inr b3 =>
  some ((-1), ()))
noncomputable def slices_IndexFunc_ce : CE CT Try.prog where
  f := 58
  args := [.one (.sl 3), .one (.fn 53)]
  hs := []
  res := .val (.one (.int .i64))
  outs := []
  m := fun d dh => slices_IndexFunc d.1
  ok := ce_ok mixedP Try.func58 (by kernel_rfl) (orcOf_ok slices_IndexFunc_tb) (dr := slices_IndexFunc_dr) (lps := lpsOf slices_IndexFunc_lt) (lps_fn (lps_of (n := 1) (by kernel_rfl) fun i hi => match i, hi with | 0, _ => lp_ok (E := slices_IndexFunc_e1) (by kernel_rfl) slices_IndexFunc_e1_ok)) (fun d dh => by kernel_rfl)

def slices_ContainsFunc_dr : Nat → DrA
  | _ => ⟨[], [], [], [], []⟩
noncomputable def slices_ContainsFunc_tb : List (CE CT Try.prog) := [slices_IndexFunc_ce]
noncomputable def slices_ContainsFunc_lt : List (LE CT Try.prog) := []
noncomputable def slices_ContainsFunc (x0 : List (List (Int))) : Option ((Bool) × (Unit)) :=
  (slices_IndexFunc x0).bind fun r1 =>
  some ((decide ((0 : Int) ≤ r1.1)), ())
noncomputable def slices_ContainsFunc_ce : CE CT Try.prog where
  f := 52
  args := [.one (.sl 3), .one (.fn 53)]
  hs := []
  res := .val (.one (.bool))
  outs := []
  m := fun d dh => slices_ContainsFunc d.1
  ok := ce_ok mixedP Try.func52 (by kernel_rfl) (orcOf_ok slices_ContainsFunc_tb) (dr := slices_ContainsFunc_dr) (lps := lpsOf slices_ContainsFunc_lt) (lps_fn (no_loop (by kernel_rfl))) (fun d dh => by kernel_rfl)

def quorum_rise_dr : Nat → DrA
  | _ => ⟨[], [], [], [], []⟩
noncomputable def quorum_rise_tb : List (CE CT Try.prog) := [slices_ContainsFunc_ce]
noncomputable def quorum_rise_lt : List (LE CT Try.prog) := []
noncomputable def quorum_rise (x0 : List (List (Int))) : Option ((Bool) × (Unit)) :=
  (slices_ContainsFunc x0).bind fun r1 =>
  some ((!r1.1), ())
noncomputable def quorum_rise_ce : CE CT Try.prog where
  f := 38
  args := [.one (.sl 3)]
  hs := []
  res := .val (.one (.bool))
  outs := []
  m := fun d dh => quorum_rise d.1
  ok := ce_ok mixedP Try.func38 (by kernel_rfl) (orcOf_ok quorum_rise_tb) (dr := quorum_rise_dr) (lps := lpsOf quorum_rise_lt) (lps_fn (no_loop (by kernel_rfl))) (fun d dh => by kernel_rfl)

def quorum_joint_dr : Nat → DrA
  | _ => ⟨[], [], [], [], []⟩
noncomputable def quorum_joint_tb : List (CE CT Try.prog) := []
noncomputable def quorum_joint_lt : List (LE CT Try.prog) := []
noncomputable def quorum_joint (x0 : DGroup) : Option ((Bool) × (Unit)) :=
  some ((decide ((0 : Int) < (x0.config.old.length : Int))), ())
noncomputable def quorum_joint_ce : CE CT Try.prog where
  f := 35
  args := [.cod 5]
  hs := []
  res := .val (.one (.bool))
  outs := []
  m := fun d dh => quorum_joint d.1
  ok := ce_ok mixedP Try.func35 (by kernel_rfl) (orcOf_ok quorum_joint_tb) (dr := quorum_joint_dr) (lps := lpsOf quorum_joint_lt) (lps_fn (no_loop (by kernel_rfl))) (fun d dh => by kernel_rfl)

def slices_Equal_dr : Nat → DrA
  | 6 => ⟨[0, 1, 2, 4, 5, 6, 3, 7, 8], [[], [], [0, 1], [0, 1, 2], [], [], [4, 5], [4, 5, 6], [0, 1, 2, 3, 4, 5, 6, 7]], [], [], []⟩
  | _ => ⟨[], [], [], [], []⟩
noncomputable def slices_Equal_tb : List (CE CT Try.prog) := []
noncomputable def slices_Equal_l1 (a : ((List (Int)) × (List (Int)) × (Int) × (Int) × Unit) × (Unit)) : Option ((((List (Int)) × (List (Int)) × (Int) × (Int) × Unit) × (Unit)) ⊕ ((((Bool) × Unit) × (Unit)) ⊕ ((Unit) × (Unit)))) :=
  (bif (decide ((a.1.2.2.2.1 : Int) < a.1.2.2.1)) then
  (getI a.1.1 a.1.2.2.2.1).bind fun e1 =>
  (getI a.1.2.1 a.1.2.2.2.1).bind fun e2 =>
  (bif (decide ((e1 : Int) ≠ e2)) then
  some (.inr (.inl ((false, ()), ())))
  else
  some (.inl ((a.1.1, a.1.2.1, a.1.2.2.1, (IntKind.i64.wrap (a.1.2.2.2.1 + 1)), ()), ())))
  else
  some (.inr (.inr ((), ()))))
noncomputable def slices_Equal_e1 : LE CT Try.prog := ⟨4, [0, 1, 12, 13], [.one (.sl 0), .one (.sl 0), .one (.int .i64), .one (.int .i64)], [], [⟨.ret, [4], [.one (.bool)], []⟩, ⟨.exit 0, [], [], []⟩], slices_Equal_l1⟩
noncomputable def slices_Equal_lt : List (LE CT Try.prog) := [slices_Equal_e1]
theorem slices_Equal_e1_ok : LeOk slices_Equal_e1 (nthL (bodyOf Try.f39) 0) := fun A env h k z hk => le_ok (E := slices_Equal_e1) (orcOf_ok slices_Equal_tb) (dr := slices_Equal_dr) (lps := lpsOf slices_Equal_lt) (no_loop (by kernel_rfl)) (fun a => by kernel_rfl) env h k z hk
noncomputable def slices_Equal (x0 : List (Int)) (x1 : List (Int)) : Option ((Bool) × (Unit)) :=
  (bif (decide (((x0.length : Int) : Int) ≠ (x1.length : Int))) then
  some (false, ())
  else
  (loopM slices_Equal_l1 ((x0, x1, (x0.length : Int), 0, ()), ())).bind fun b1 =>
  (match b1 with
  | .inl b2 =>
  some (b2.1.1, ())
  | .inr b3 =>
  some (true, ())))
noncomputable def slices_Equal_ce : CE CT Try.prog where
  f := 39
  args := [.one (.sl 0), .one (.sl 0)]
  hs := []
  res := .val (.one (.bool))
  outs := []
  m := fun d dh => slices_Equal d.1 d.2.1
  ok := ce_ok mixedP Try.func39 (by kernel_rfl) (orcOf_ok slices_Equal_tb) (dr := slices_Equal_dr) (lps := lpsOf slices_Equal_lt) (lps_fn (lps_of (n := 1) (by kernel_rfl) fun i hi => match i, hi with | 0, _ => lp_ok (E := slices_Equal_e1) (by kernel_rfl) slices_Equal_e1_ok)) (fun d dh => by kernel_rfl)

def quorum_changes_dr : Nat → DrA
  | _ => ⟨[], [], [], [], []⟩
noncomputable def quorum_changes_tb : List (CE CT Try.prog) := []
noncomputable def quorum_changes_lt : List (LE CT Try.prog) := []
noncomputable def quorum_changes (x0 : DGroup) : Option ((Bool) × (Unit)) :=
  some ((decide ((0 : Int) < (x0.config.want.length : Int))), ())
noncomputable def quorum_changes_ce : CE CT Try.prog where
  f := 36
  args := [.cod 5]
  hs := []
  res := .val (.one (.bool))
  outs := []
  m := fun d dh => quorum_changes d.1
  ok := ce_ok mixedP Try.func36 (by kernel_rfl) (orcOf_ok quorum_changes_tb) (dr := quorum_changes_dr) (lps := lpsOf quorum_changes_lt) (lps_fn (no_loop (by kernel_rfl))) (fun d dh => by kernel_rfl)

def slices_Index_dr : Nat → DrA
  | _ => ⟨[], [], [], [], []⟩
noncomputable def slices_Index_tb : List (CE CT Try.prog) := []
noncomputable def slices_Index_l1 (a : ((List (Int)) × (Int) × (Int) × (Int) × Unit) × (Unit)) : Option ((((List (Int)) × (Int) × (Int) × (Int) × Unit) × (Unit)) ⊕ ((((Int) × Unit) × (Unit)) ⊕ ((Unit) × (Unit)))) :=
  (bif (decide ((a.1.2.2.2.1 : Int) < a.1.2.2.1)) then
  (getI a.1.1 a.1.2.2.2.1).bind fun e1 =>
  (bif (decide ((a.1.2.1 : Int) = e1)) then
  some (.inr (.inl ((a.1.2.2.2.1, ()), ())))
  else
  some (.inl ((a.1.1, a.1.2.1, a.1.2.2.1, (IntKind.i64.wrap (a.1.2.2.2.1 + 1)), ()), ())))
  else
  some (.inr (.inr ((), ()))))
noncomputable def slices_Index_e1 : LE CT Try.prog := ⟨2, [0, 1, 7, 8], [.one (.sl 0), .one (.int .i64), .one (.int .i64), .one (.int .i64)], [], [⟨.ret, [4], [.one (.int .i64)], []⟩, ⟨.exit 0, [], [], []⟩], slices_Index_l1⟩
noncomputable def slices_Index_lt : List (LE CT Try.prog) := [slices_Index_e1]
theorem slices_Index_e1_ok : LeOk slices_Index_e1 (nthL (bodyOf Try.f54) 0) := fun A env h k z hk => le_ok (E := slices_Index_e1) (orcOf_ok slices_Index_tb) (dr := slices_Index_dr) (lps := lpsOf slices_Index_lt) (no_loop (by kernel_rfl)) (fun a => by kernel_rfl) env h k z hk
noncomputable def slices_Index (x0 : List (Int)) (x1 : Int) : Option ((Int) × (Unit)) :=
  (loopM slices_Index_l1 ((x0, x1, (x0.length : Int), 0, ()), ())).bind fun b1 =>
  (match b1 with
  | .inl b2 =>
  some (b2.1.1, ())
  | .inr b3 =>
  some ((-1), ()))
noncomputable def slices_Index_ce : CE CT Try.prog where
  f := 54
  args := [.one (.sl 0), .one (.int .i64)]
  hs := []
  res := .val (.one (.int .i64))
  outs := []
  m := fun d dh => slices_Index d.1 d.2.1
  ok := ce_ok mixedP Try.func54 (by kernel_rfl) (orcOf_ok slices_Index_tb) (dr := slices_Index_dr) (lps := lpsOf slices_Index_lt) (lps_fn (lps_of (n := 1) (by kernel_rfl) fun i hi => match i, hi with | 0, _ => lp_ok (E := slices_Index_e1) (by kernel_rfl) slices_Index_e1_ok)) (fun d dh => by kernel_rfl)

def slices_Contains_dr : Nat → DrA
  | _ => ⟨[], [], [], [], []⟩
noncomputable def slices_Contains_tb : List (CE CT Try.prog) := [slices_Index_ce]
noncomputable def slices_Contains_lt : List (LE CT Try.prog) := []
noncomputable def slices_Contains (x0 : List (Int)) (x1 : Int) : Option ((Bool) × (Unit)) :=
  (slices_Index x0 x1).bind fun r1 =>
  some ((decide ((0 : Int) ≤ r1.1)), ())
noncomputable def slices_Contains_ce : CE CT Try.prog where
  f := 41
  args := [.one (.sl 0), .one (.int .i64)]
  hs := []
  res := .val (.one (.bool))
  outs := []
  m := fun d dh => slices_Contains d.1 d.2.1
  ok := ce_ok mixedP Try.func41 (by kernel_rfl) (orcOf_ok slices_Contains_tb) (dr := slices_Contains_dr) (lps := lpsOf slices_Contains_lt) (lps_fn (no_loop (by kernel_rfl))) (fun d dh => by kernel_rfl)

def quorum_without_dr : Nat → DrA
  | _ => ⟨[], [], [], [], []⟩
noncomputable def quorum_without_tb : List (CE CT Try.prog) := [slices_Contains_ce]
noncomputable def quorum_without_l1 (a : ((List (Int)) × (List (Int)) × (List (Int)) × (Int) × (Int) × Unit) × ((Unit) × Unit)) : Option ((((List (Int)) × (List (Int)) × (List (Int)) × (Int) × (Int) × Unit) × ((Unit) × Unit)) ⊕ ((((List (Int)) × Unit) × ((Unit) × (Unit) × Unit)))) :=
  (bif (decide ((a.1.2.2.2.2.1 : Int) < a.1.2.2.2.1)) then
  (getI a.1.2.2.1 a.1.2.2.2.2.1).bind fun e1 =>
  (slices_Contains a.1.1 e1).bind fun r2 =>
  (bif (!r2.1) then
  (if a.1.2.1.length + ([e1] : List (Int)).length ≤ 140737488355328 ∧ (a.1.2.1.length + ([e1] : List (Int)).length) * 8 ≤ 140737488355328 then
  some (.inl ((a.1.1, (a.1.2.1 ++ ([e1] : List (Int))), a.1.2.2.1, a.1.2.2.2.1, (IntKind.i64.wrap (a.1.2.2.2.2.1 + 1)), ()), ((), ())))
  else none)
  else
  some (.inl ((a.1.1, a.1.2.1, a.1.2.2.1, a.1.2.2.2.1, (IntKind.i64.wrap (a.1.2.2.2.2.1 + 1)), ()), ((), ()))))
  else
  some (.inr ((a.1.2.1, ()), ((), (), ()))))
noncomputable def quorum_without_e1 : LE CT Try.prog := ⟨3, [1, 5, 8, 9, 10], [.one (.sl 0), .one (.own 0 0), .one (.sl 0), .one (.int .i64), .one (.int .i64)], [.row 3 1], [⟨.exit 0, [5], [.one (.own 0 1)], [.dead, .row 3 1]⟩], quorum_without_l1⟩
noncomputable def quorum_without_lt : List (LE CT Try.prog) := [quorum_without_e1]
theorem quorum_without_e1_ok : LeOk quorum_without_e1 (nthL (bodyOf Try.f40) 0) := fun A env h k z hk => le_ok (E := quorum_without_e1) (orcOf_ok quorum_without_tb) (dr := quorum_without_dr) (lps := lpsOf quorum_without_lt) (no_loop (by kernel_rfl)) (fun a => by kernel_rfl) env h k z hk
noncomputable def quorum_without (x0 : List (Int)) (x1 : List (Int)) : Option ((List (Int)) × ((Unit) × Unit)) :=
  (loopM quorum_without_l1 ((x1, [], x0, (x0.length : Int), 0, ()), ((), ()))).bind fun b1 =>
  some (b1.1.1, ((), ()))
noncomputable def quorum_without_ce : CE CT Try.prog where
  f := 40
  args := [.one (.sl 0), .one (.sl 0)]
  hs := []
  res := .val (.one (.own 0 0))
  outs := [.row 3 1]
  m := fun d dh => quorum_without d.1 d.2.1
  ok := ce_ok mixedP Try.func40 (by kernel_rfl) (orcOf_ok quorum_without_tb) (dr := quorum_without_dr) (lps := lpsOf quorum_without_lt) (lps_fn (lps_of (n := 1) (by kernel_rfl) fun i hi => match i, hi with | 0, _ => lp_ok (E := quorum_without_e1) (by kernel_rfl) quorum_without_e1_ok)) (fun d dh => by kernel_rfl)

def quorum_right_dr : Nat → DrA
  | 8 => ⟨[0, 1, 3, 4, 2, 5, 6, 7, 8, 9, 10, 12, 13, 15, 16, 11, 14, 17, 18, 19, 20, 21], [[], [0], [0, 1], [], [3], [3, 4], [0, 1, 2, 3, 4, 5], [0, 1, 2, 3, 4, 5, 6], [0, 1, 2, 3, 4, 5, 6, 7], [0, 1, 2, 3, 4, 5, 6, 7, 8], [0, 1, 2, 3, 4, 5, 6, 7, 8, 9], [0, 1, 2, 3, 4, 5, 6, 7, 8, 9, 10], [0, 1, 2, 3, 4, 5, 6, 7, 8], [0, 1, 2, 3, 4, 5, 6, 7, 8, 12], [0, 1, 2, 3, 4, 5, 6, 7, 8, 12, 13], [0, 1, 2, 3, 4, 5, 6, 7, 8], [0, 1, 2, 3, 4, 5, 6, 7, 8, 15], [0, 1, 2, 3, 4, 5, 6, 7, 8, 15, 16], [0, 1, 2, 3, 4, 5, 6, 7, 8, 12, 13, 14, 15, 16, 17], [0, 1, 2, 3, 4, 5, 6, 7, 8, 9, 10, 11, 12, 13, 14, 15, 16, 17, 18], [0, 1, 2, 3, 4, 5, 6, 7, 8, 9, 10, 11, 12, 13, 14, 15, 16, 17, 18, 19], [0, 1, 2, 3, 4, 5, 6, 7, 8, 9, 10, 11, 12, 13, 14, 15, 16, 17, 18, 19, 20]], [11], [18], [0]⟩
  | _ => ⟨[], [], [], [], []⟩
noncomputable def quorum_right_tb : List (CE CT Try.prog) := [quorum_rise_ce, quorum_joint_ce, slices_Equal_ce, quorum_changes_ce, quorum_without_ce]
noncomputable def quorum_right_lt : List (LE CT Try.prog) := []
noncomputable def quorum_right (x0 : DGroup) : Option ((Bool) × (Unit)) :=
  (quorum_rise ([x0.config.voters, x0.config.old, x0.config.learners, x0.config.want] : List (List (Int)))).bind fun r1 =>
  (bif (!r1.1) then
  some (false, ())
  else
  (bif (decide (((x0.config.voters.length : Int) : Int) = 0)) then
  let y2 : Bool := (decide (((IntKind.i64.wrap ((IntKind.i64.wrap ((x0.config.old.length : Int) + (x0.config.learners.length : Int))) + (x0.config.want.length : Int))) : Int) = 0))
  some (y2, ())
  else
  (quorum_joint x0).bind fun r3 =>
  (bif r3.1 then
  (slices_Equal x0.config.want x0.config.voters).bind fun r4 =>
  (bif r4.1 then
  some ((decide (((x0.config.learners.length : Int) : Int) = 0)), ())
  else
  some (false, ()))
  else
  (quorum_changes x0).bind fun r5 =>
  (bif r5.1 then
  (slices_Equal x0.config.want x0.config.voters).bind fun r6 =>
  (bif (!r6.1) then
  (quorum_without x0.config.want x0.config.voters).bind fun r7 =>
  (slices_Equal x0.config.learners r7.1).bind fun r8 =>
  some (r8.1, ())
  else
  some (false, ()))
  else
  some ((decide (((x0.config.learners.length : Int) : Int) = 0)), ())))))
noncomputable def quorum_right_ce : CE CT Try.prog where
  f := 33
  args := [.cod 5]
  hs := []
  res := .val (.one (.bool))
  outs := []
  m := fun d dh => quorum_right d.1
  ok := ce_ok mixedP Try.func33 (by kernel_rfl) (orcOf_ok quorum_right_tb) (dr := quorum_right_dr) (lps := lpsOf quorum_right_lt) (lps_fn (no_loop (by kernel_rfl))) (fun d dh => by kernel_rfl)

noncomputable def clone37 (x : List (Int)) : Option ((List (Int)) × (Unit × Unit)) :=
  if x.length ≤ 140737488355328 ∧ x.length * 8 ≤ 140737488355328 then some (x, ((), ())) else none
noncomputable def clone37_ce : CE CT Try.prog where
  f := 37
  args := [.one (.sl 0)]
  hs := []
  res := .val (.one (.own 0 0))
  outs := [.row 3 1]
  m := fun d dh => clone37 d.1
  ok := fun d dh r hr => by
    unfold clone37 at hr
    split at hr
    · rename_i hroom
      injection hr with hr
      subst hr
      exact clone_tr mixedP Try.func37 (by kernel_rfl) rfl rfl (zv := .int .i64 0) (he := by kernel_rfl) (hsz := by kernel_rfl) (hz := by kernel_rfl) (hby := by kernel_rfl) rfl rfl d.1 hroom
    · cases hr

def quorum_Begin_dr : Nat → DrA
  | 11 => ⟨[0, 1, 4, 5, 6, 9, 2, 7, 3, 8, 10, 11, 12, 13], [[], [0], [0, 1], [0, 1, 2], [], [], [5], [5, 6], [0, 1, 2, 3, 4, 5, 6, 7], [], [0, 1, 2, 3, 4, 5, 6, 7, 8, 9], [0, 1, 2, 3, 4, 5, 6, 7, 8, 9, 10], [0, 1, 2, 3, 4, 5, 6, 7, 8, 9, 10, 11], [0, 1, 2, 3, 4, 5, 6, 7, 8, 9, 10, 11, 12]], [7], [3], [2]⟩
  | _ => ⟨[], [], [], [], []⟩
noncomputable def quorum_Begin_tb : List (CE CT Try.prog) := [quorum_right_ce, quorum_rise_ce, quorum_changes_ce, slices_Equal_ce, clone37_ce, quorum_without_ce]
noncomputable def quorum_Begin_lt : List (LE CT Try.prog) := []
noncomputable def quorum_Begin (x0 : DConfig) (x1 : List (Int)) : Option (((DConfig) × (Int) × Unit) × (Unit)) :=
  (quorum_right (⟨x0⟩ : DGroup)).bind fun r1 =>
  (bif (!r1.1) then
  some (((⟨[], [], [], []⟩ : DConfig), 2, ()), ())
  else
  (bif (decide (((x0.voters.length : Int) : Int) = 0)) then
  some (((⟨[], [], [], []⟩ : DConfig), 2, ()), ())
  else
  (quorum_rise ([x1] : List (List (Int)))).bind fun r2 =>
  (bif (!r2.1) then
  some (((⟨[], [], [], []⟩ : DConfig), 2, ()), ())
  else
  (bif (decide (((x1.length : Int) : Int) = 0)) then
  some (((⟨[], [], [], []⟩ : DConfig), 2, ()), ())
  else
  (quorum_changes (⟨x0⟩ : DGroup)).bind fun r3 =>
  (bif r3.1 then
  some (((⟨[], [], [], []⟩ : DConfig), 25, ()), ())
  else
  (slices_Equal x1 x0.voters).bind fun r4 =>
  (bif r4.1 then
  some (((⟨[], [], [], []⟩ : DConfig), 7, ()), ())
  else
  (clone37 x0.voters).bind fun r5 =>
  (quorum_without x1 x0.voters).bind fun r6 =>
  (clone37 x1).bind fun r7 =>
  some (((⟨r5.1, [], r6.1, r7.1⟩ : DConfig), 0, ()), ())))))))
noncomputable def quorum_Begin_ce : CE CT Try.prog where
  f := 12
  args := [.cod 4, .one (.sl 0)]
  hs := []
  res := .tup [.cod 4, .one (.int .i64)]
  outs := []
  m := fun d dh => quorum_Begin d.1 d.2.1
  ok := ce_ok mixedP Try.func12 (by kernel_rfl) (orcOf_ok quorum_Begin_tb) (dr := quorum_Begin_dr) (lps := lpsOf quorum_Begin_lt) (lps_fn (no_loop (by kernel_rfl))) (fun d dh => by kernel_rfl)

def quorum_Next_dr : Nat → DrA
  | 7 => ⟨[0, 1, 4, 5, 8, 9, 2, 6, 10, 3, 7, 11, 12, 13, 14], [[], [0], [0, 1], [0, 1, 2], [], [4], [4, 5], [0, 1, 2, 3, 4, 5, 6], [], [8], [8, 9], [0, 1, 2, 3, 4, 5, 6, 7, 8, 9, 10], [0, 1, 2, 3, 4, 5, 6, 7, 8, 9, 10, 11], [0, 1, 2, 3, 4, 5, 6, 7, 8, 9, 10, 11, 12], [0, 1, 2, 3, 4, 5, 6, 7, 8, 9, 10, 11, 12, 13]], [6, 10], [3, 7], [2]⟩
  | _ => ⟨[], [], [], [], []⟩
noncomputable def quorum_Next_tb : List (CE CT Try.prog) := [quorum_right_ce, quorum_changes_ce, quorum_joint_ce, clone37_ce]
noncomputable def quorum_Next_lt : List (LE CT Try.prog) := []
noncomputable def quorum_Next (x0 : DConfig) : Option (((DConfig) × (Bool) × Unit) × (Unit)) :=
  (quorum_right (⟨x0⟩ : DGroup)).bind fun r1 =>
  (bif (!r1.1) then
  some (((⟨[], [], [], []⟩ : DConfig), false, ()), ())
  else
  (quorum_changes (⟨x0⟩ : DGroup)).bind fun r2 =>
  (bif (!r2.1) then
  some (((⟨[], [], [], []⟩ : DConfig), false, ()), ())
  else
  (quorum_joint (⟨x0⟩ : DGroup)).bind fun r3 =>
  (bif r3.1 then
  (clone37 x0.voters).bind fun r4 =>
  some (((⟨r4.1, [], [], []⟩ : DConfig), true, ()), ())
  else
  (clone37 x0.want).bind fun r5 =>
  (clone37 x0.voters).bind fun r6 =>
  (clone37 x0.want).bind fun r7 =>
  some (((⟨r5.1, r6.1, [], r7.1⟩ : DConfig), true, ()), ()))))
noncomputable def quorum_Next_ce : CE CT Try.prog where
  f := 11
  args := [.cod 4]
  hs := []
  res := .tup [.cod 4, .one (.bool)]
  outs := []
  m := fun d dh => quorum_Next d.1
  ok := ce_ok mixedP Try.func11 (by kernel_rfl) (orcOf_ok quorum_Next_tb) (dr := quorum_Next_dr) (lps := lpsOf quorum_Next_lt) (lps_fn (no_loop (by kernel_rfl))) (fun d dh => by kernel_rfl)

def watershedkit_SameInts_dr : Nat → DrA
  | 6 => ⟨[0, 1, 2, 4, 5, 6, 3, 7, 8], [[], [], [0, 1], [0, 1, 2], [], [], [4, 5], [4, 5, 6], [0, 1, 2, 3, 4, 5, 6, 7]], [], [], []⟩
  | _ => ⟨[], [], [], [], []⟩
noncomputable def watershedkit_SameInts_tb : List (CE CT Try.prog) := []
noncomputable def watershedkit_SameInts_l1 (a : ((List (Int)) × (List (Int)) × (Int) × Unit) × (Unit)) : Option ((((List (Int)) × (List (Int)) × (Int) × Unit) × (Unit)) ⊕ ((((Bool) × Unit) × (Unit)) ⊕ ((Unit) × (Unit)))) :=
  (bif (decide ((a.1.2.2.1 : Int) < (a.1.1.length : Int))) then
  (getI a.1.1 a.1.2.2.1).bind fun e1 =>
  (getI a.1.2.1 a.1.2.2.1).bind fun e2 =>
  (bif (decide ((e1 : Int) ≠ e2)) then
  some (.inr (.inl ((false, ()), ())))
  else
  some (.inl ((a.1.1, a.1.2.1, (IntKind.i64.wrap (a.1.2.2.1 + 1)), ()), ())))
  else
  some (.inr (.inr ((), ()))))
noncomputable def watershedkit_SameInts_e1 : LE CT Try.prog := ⟨4, [0, 1, 5], [.one (.sl 0), .one (.sl 0), .one (.int .i64)], [], [⟨.ret, [4], [.one (.bool)], []⟩, ⟨.exit 0, [], [], []⟩], watershedkit_SameInts_l1⟩
noncomputable def watershedkit_SameInts_lt : List (LE CT Try.prog) := [watershedkit_SameInts_e1]
theorem watershedkit_SameInts_e1_ok : LeOk watershedkit_SameInts_e1 (nthL (bodyOf Try.f15) 0) := fun A env h k z hk => le_ok (E := watershedkit_SameInts_e1) (orcOf_ok watershedkit_SameInts_tb) (dr := watershedkit_SameInts_dr) (lps := lpsOf watershedkit_SameInts_lt) (no_loop (by kernel_rfl)) (fun a => by kernel_rfl) env h k z hk
noncomputable def watershedkit_SameInts (x0 : List (Int)) (x1 : List (Int)) : Option ((Bool) × (Unit)) :=
  (bif (decide (((x0.length : Int) : Int) ≠ (x1.length : Int))) then
  some (false, ())
  else
  (loopM watershedkit_SameInts_l1 ((x0, x1, 0, ()), ())).bind fun b1 =>
  (match b1 with
  | .inl b2 =>
  some (b2.1.1, ())
  | .inr b3 =>
  some (true, ())))
noncomputable def watershedkit_SameInts_ce : CE CT Try.prog where
  f := 15
  args := [.one (.sl 0), .one (.sl 0)]
  hs := []
  res := .val (.one (.bool))
  outs := []
  m := fun d dh => watershedkit_SameInts d.1 d.2.1
  ok := ce_ok mixedP Try.func15 (by kernel_rfl) (orcOf_ok watershedkit_SameInts_tb) (dr := watershedkit_SameInts_dr) (lps := lpsOf watershedkit_SameInts_lt) (lps_fn (lps_of (n := 1) (by kernel_rfl) fun i hi => match i, hi with | 0, _ => lp_ok (E := watershedkit_SameInts_e1) (by kernel_rfl) watershedkit_SameInts_e1_ok)) (fun d dh => by kernel_rfl)

def watershedkit_SameConfig_dr : Nat → DrA
  | _ => ⟨[], [], [], [], []⟩
noncomputable def watershedkit_SameConfig_tb : List (CE CT Try.prog) := [watershedkit_SameInts_ce]
noncomputable def watershedkit_SameConfig_lt : List (LE CT Try.prog) := []
noncomputable def watershedkit_SameConfig (x0 : DConfig) (x1 : DConfig) : Option ((Bool) × (Unit)) :=
  (watershedkit_SameInts x0.voters x1.voters).bind fun r1 =>
  (bif r1.1 then
  (watershedkit_SameInts x0.old x1.old).bind fun r2 =>
  (bif r2.1 then
  (watershedkit_SameInts x0.learners x1.learners).bind fun r3 =>
  (bif r3.1 then
  (watershedkit_SameInts x0.want x1.want).bind fun r4 =>
  some (r4.1, ())
  else
  some (false, ()))
  else
  some (false, ()))
  else
  some (false, ()))
noncomputable def watershedkit_SameConfig_ce : CE CT Try.prog where
  f := 13
  args := [.cod 4, .cod 4]
  hs := []
  res := .val (.one (.bool))
  outs := []
  m := fun d dh => watershedkit_SameConfig d.1 d.2.1
  ok := ce_ok mixedP Try.func13 (by kernel_rfl) (orcOf_ok watershedkit_SameConfig_tb) (dr := watershedkit_SameConfig_dr) (lps := lpsOf watershedkit_SameConfig_lt) (lps_fn (no_loop (by kernel_rfl))) (fun d dh => by kernel_rfl)

def watershedlaw06_same_dr : Nat → DrA
  | _ => ⟨[], [], [], [], []⟩
noncomputable def watershedlaw06_same_tb : List (CE CT Try.prog) := [watershedkit_SameConfig_ce]
noncomputable def watershedlaw06_same_lt : List (LE CT Try.prog) := []
noncomputable def watershedlaw06_same (x0 : DConfig) (x1 : DConfig) : Option ((Bool) × (Unit)) :=
  (watershedkit_SameConfig x0 x1).bind fun r1 =>
  some (r1.1, ())
noncomputable def watershedlaw06_same_ce : CE CT Try.prog where
  f := 22
  args := [.cod 4, .cod 4]
  hs := []
  res := .val (.one (.bool))
  outs := []
  m := fun d dh => watershedlaw06_same d.1 d.2.1
  ok := ce_ok mixedP Try.func22 (by kernel_rfl) (orcOf_ok watershedlaw06_same_tb) (dr := watershedlaw06_same_dr) (lps := lpsOf watershedlaw06_same_lt) (lps_fn (no_loop (by kernel_rfl))) (fun d dh => by kernel_rfl)

def watershedlaw06_awake_dr : Nat → DrA
  | _ => ⟨[], [], [], [], []⟩
noncomputable def watershedlaw06_awake_tb : List (CE CT Try.prog) := [quorum_Begin_ce, quorum_Next_ce, watershedlaw06_same_ce]
noncomputable def watershedlaw06_awake_lt : List (LE CT Try.prog) := []
noncomputable def watershedlaw06_awake  : Option ((Bool) × (Unit)) :=
  (quorum_Begin (⟨([1, 2, 3] : List (Int)), [], [], []⟩ : DConfig) ([3, 4] : List (Int))).bind fun r1 =>
  (quorum_Next r1.1.1).bind fun r2 =>
  (quorum_Next r2.1.1).bind fun r3 =>
  (bif (decide ((r1.1.2.1 : Int) = 0)) then
  (bif r2.1.2.1 then
  (bif r3.1.2.1 then
  (watershedlaw06_same r1.1.1 (⟨([1, 2, 3] : List (Int)), [], ([4] : List (Int)), ([3, 4] : List (Int))⟩ : DConfig)).bind fun r4 =>
  (bif r4.1 then
  (watershedlaw06_same r2.1.1 (⟨([3, 4] : List (Int)), ([1, 2, 3] : List (Int)), [], ([3, 4] : List (Int))⟩ : DConfig)).bind fun r5 =>
  (bif r5.1 then
  (watershedlaw06_same r3.1.1 (⟨([3, 4] : List (Int)), [], [], []⟩ : DConfig)).bind fun r6 =>
  some (r6.1, ())
  else
  some (false, ()))
  else
  some (false, ()))
  else
  some (false, ()))
  else
  some (false, ()))
  else
  some (false, ()))
noncomputable def watershedlaw06_awake_ce : CE CT Try.prog where
  f := 7
  args := []
  hs := []
  res := .val (.one (.bool))
  outs := []
  m := fun d dh => watershedlaw06_awake
  ok := ce_ok mixedP Try.func7 (by kernel_rfl) (orcOf_ok watershedlaw06_awake_tb) (dr := watershedlaw06_awake_dr) (lps := lpsOf watershedlaw06_awake_lt) (lps_fn (no_loop (by kernel_rfl))) (fun d dh => by kernel_rfl)

def watershedlaw06_great_dr : Nat → DrA
  | _ => ⟨[], [], [], [], []⟩
noncomputable def watershedlaw06_great_tb : List (CE CT Try.prog) := []
noncomputable def watershedlaw06_great_lt : List (LE CT Try.prog) := []
noncomputable def watershedlaw06_great (x0 : DConfig) (x1 : List (Int)) : Option ((Bool) × (Unit)) :=
  (bif (decide ((40 : Int) < (x0.voters.length : Int))) then
  some (true, ())
  else
  (bif (decide ((40 : Int) < (x0.old.length : Int))) then
  some (true, ())
  else
  (bif (decide ((40 : Int) < (x0.learners.length : Int))) then
  some (true, ())
  else
  (bif (decide ((40 : Int) < (x0.want.length : Int))) then
  some (true, ())
  else
  some ((decide ((40 : Int) < (x1.length : Int))), ())))))
noncomputable def watershedlaw06_great_ce : CE CT Try.prog where
  f := 8
  args := [.cod 4, .one (.sl 0)]
  hs := []
  res := .val (.one (.bool))
  outs := []
  m := fun d dh => watershedlaw06_great d.1 d.2.1
  ok := ce_ok mixedP Try.func8 (by kernel_rfl) (orcOf_ok watershedlaw06_great_tb) (dr := watershedlaw06_great_dr) (lps := lpsOf watershedlaw06_great_lt) (lps_fn (no_loop (by kernel_rfl))) (fun d dh => by kernel_rfl)

def quorum_most_dr : Nat → DrA
  | _ => ⟨[], [], [], [], []⟩
noncomputable def quorum_most_tb : List (CE CT Try.prog) := [quorum_without_ce]
noncomputable def quorum_most_lt : List (LE CT Try.prog) := []
noncomputable def quorum_most (x0 : List (Int)) (x1 : List (Int)) : Option ((Bool) × (Unit)) :=
  (quorum_without x0 x1).bind fun r1 =>
  let y2 : Bool := (decide (((x0.length : Int) : Int) < (IntKind.i64.wrap (2 * (IntKind.i64.wrap ((x0.length : Int) - (r1.1.length : Int)))))))
  some (y2, ())
noncomputable def quorum_most_ce : CE CT Try.prog where
  f := 34
  args := [.one (.sl 0), .one (.sl 0)]
  hs := []
  res := .val (.one (.bool))
  outs := []
  m := fun d dh => quorum_most d.1 d.2.1
  ok := ce_ok mixedP Try.func34 (by kernel_rfl) (orcOf_ok quorum_most_tb) (dr := quorum_most_dr) (lps := lpsOf quorum_most_lt) (lps_fn (no_loop (by kernel_rfl))) (fun d dh => by kernel_rfl)

def quorum_Agrees_dr : Nat → DrA
  | _ => ⟨[], [], [], [], []⟩
noncomputable def quorum_Agrees_tb : List (CE CT Try.prog) := [quorum_right_ce, quorum_most_ce, quorum_joint_ce]
noncomputable def quorum_Agrees_lt : List (LE CT Try.prog) := []
noncomputable def quorum_Agrees (x0 : DConfig) (x1 : List (Int)) : Option ((Bool) × (Unit)) :=
  (quorum_right (⟨x0⟩ : DGroup)).bind fun r1 =>
  (bif r1.1 then
  (quorum_most x0.voters x1).bind fun r2 =>
  (bif r2.1 then
  (quorum_joint (⟨x0⟩ : DGroup)).bind fun r3 =>
  (bif (!r3.1) then
  some (true, ())
  else
  (quorum_most x0.old x1).bind fun r4 =>
  some (r4.1, ()))
  else
  some (false, ()))
  else
  some (false, ()))
noncomputable def quorum_Agrees_ce : CE CT Try.prog where
  f := 9
  args := [.cod 4, .one (.sl 0)]
  hs := []
  res := .val (.one (.bool))
  outs := []
  m := fun d dh => quorum_Agrees d.1 d.2.1
  ok := ce_ok mixedP Try.func9 (by kernel_rfl) (orcOf_ok quorum_Agrees_tb) (dr := quorum_Agrees_dr) (lps := lpsOf quorum_Agrees_lt) (lps_fn (no_loop (by kernel_rfl))) (fun d dh => by kernel_rfl)

def watershedlaw06_both_dr : Nat → DrA
  | 8 => ⟨[0, 1, 2, 3, 4, 6, 7, 8, 5, 9, 10, 11, 12], [[], [0], [0, 1], [0, 1], [0, 1, 2, 3], [0, 1, 2, 3, 4], [0, 1], [0, 1], [0, 1, 6, 7], [0, 1, 6, 7, 8], [0, 1, 2, 3, 4, 5, 6, 7, 8, 9], [0, 1, 2, 3, 4, 5, 6, 7, 8, 9, 10], [0, 1, 2, 3, 4, 5, 6, 7, 8, 9, 10, 11]], [], [], []⟩
  | 12 => ⟨[0, 1, 2, 3, 4, 6, 7, 8, 5, 9, 10, 11, 12], [[], [0], [0, 1], [0, 1], [0, 1, 2, 3], [0, 1, 2, 3, 4], [0, 1], [0, 1], [0, 1, 6, 7], [0, 1, 6, 7, 8], [0, 1, 2, 3, 4, 5, 6, 7, 8, 9], [0, 1, 2, 3, 4, 5, 6, 7, 8, 9, 10], [0, 1, 2, 3, 4, 5, 6, 7, 8, 9, 10, 11]], [], [], []⟩
  | _ => ⟨[], [], [], [], []⟩
noncomputable def watershedlaw06_both_tb : List (CE CT Try.prog) := []
noncomputable def watershedlaw06_both_l2 (a : ((List (Int)) × (List (Int)) × (List (Int)) × (Int) × (Bool) × (Bool) × (Int) × Unit) × (Unit)) : Option ((((List (Int)) × (List (Int)) × (List (Int)) × (Int) × (Bool) × (Bool) × (Int) × Unit) × (Unit)) ⊕ ((((List (Int)) × (List (Int)) × (List (Int)) × (Int) × (Bool) × (Bool) × Unit) × (Unit)))) :=
  (bif (decide ((a.1.2.2.2.2.2.2.1 : Int) < (a.1.2.1.length : Int))) then
  (bif a.1.2.2.2.2.1 then
  some (.inl ((a.1.1, a.1.2.1, a.1.2.2.1, a.1.2.2.2.1, true, a.1.2.2.2.2.2.1, (IntKind.i64.wrap (a.1.2.2.2.2.2.2.1 + 1)), ()), ()))
  else
  (getI a.1.2.1 a.1.2.2.2.2.2.2.1).bind fun e1 =>
  (getI a.1.1 a.1.2.2.2.1).bind fun e2 =>
  some (.inl ((a.1.1, a.1.2.1, a.1.2.2.1, a.1.2.2.2.1, (decide ((e1 : Int) = e2)), a.1.2.2.2.2.2.1, (IntKind.i64.wrap (a.1.2.2.2.2.2.2.1 + 1)), ()), ())))
  else
  some (.inr ((a.1.1, a.1.2.1, a.1.2.2.1, a.1.2.2.2.1, a.1.2.2.2.2.1, a.1.2.2.2.2.2.1, ()), ())))
noncomputable def watershedlaw06_both_e2 : LE CT Try.prog := ⟨6, [0, 1, 2, 7, 8, 9, 10], [.one (.sl 0), .one (.sl 0), .one (.sl 0), .one (.int .i64), .one (.bool), .one (.bool), .one (.int .i64)], [], [⟨.exit 2, [0, 1, 2, 7, 8, 9], [.one (.sl 0), .one (.sl 0), .one (.sl 0), .one (.int .i64), .one (.bool), .one (.bool)], []⟩], watershedlaw06_both_l2⟩
noncomputable def watershedlaw06_both_l3 (a : ((List (Int)) × (List (Int)) × (List (Int)) × (Int) × (Bool) × (Bool) × (Int) × Unit) × (Unit)) : Option ((((List (Int)) × (List (Int)) × (List (Int)) × (Int) × (Bool) × (Bool) × (Int) × Unit) × (Unit)) ⊕ ((((List (Int)) × (List (Int)) × (List (Int)) × (Int) × (Bool) × (Bool) × Unit) × (Unit)))) :=
  (bif (decide ((a.1.2.2.2.2.2.2.1 : Int) < (a.1.2.2.1.length : Int))) then
  (bif a.1.2.2.2.2.2.1 then
  some (.inl ((a.1.1, a.1.2.1, a.1.2.2.1, a.1.2.2.2.1, a.1.2.2.2.2.1, true, (IntKind.i64.wrap (a.1.2.2.2.2.2.2.1 + 1)), ()), ()))
  else
  (getI a.1.2.2.1 a.1.2.2.2.2.2.2.1).bind fun e1 =>
  (getI a.1.1 a.1.2.2.2.1).bind fun e2 =>
  some (.inl ((a.1.1, a.1.2.1, a.1.2.2.1, a.1.2.2.2.1, a.1.2.2.2.2.1, (decide ((e1 : Int) = e2)), (IntKind.i64.wrap (a.1.2.2.2.2.2.2.1 + 1)), ()), ())))
  else
  some (.inr ((a.1.1, a.1.2.1, a.1.2.2.1, a.1.2.2.2.1, a.1.2.2.2.2.1, a.1.2.2.2.2.2.1, ()), ())))
noncomputable def watershedlaw06_both_e3 : LE CT Try.prog := ⟨10, [0, 1, 2, 7, 8, 9, 11], [.one (.sl 0), .one (.sl 0), .one (.sl 0), .one (.int .i64), .one (.bool), .one (.bool), .one (.int .i64)], [], [⟨.exit 4, [0, 1, 2, 7, 8, 9], [.one (.sl 0), .one (.sl 0), .one (.sl 0), .one (.int .i64), .one (.bool), .one (.bool)], []⟩], watershedlaw06_both_l3⟩
noncomputable def watershedlaw06_both_l1 (a : ((List (Int)) × (List (Int)) × (List (Int)) × (Int) × Unit) × (Unit)) : Option ((((List (Int)) × (List (Int)) × (List (Int)) × (Int) × Unit) × (Unit)) ⊕ ((((Bool) × Unit) × (Unit)) ⊕ ((Unit) × (Unit)))) :=
  (bif (decide ((a.1.2.2.2.1 : Int) < (a.1.1.length : Int))) then
  (loopM watershedlaw06_both_l2 ((a.1.1, a.1.2.1, a.1.2.2.1, a.1.2.2.2.1, false, false, 0, ()), ())).bind fun b1 =>
  (loopM watershedlaw06_both_l3 ((b1.1.1, b1.1.2.1, b1.1.2.2.1, b1.1.2.2.2.1, b1.1.2.2.2.2.1, b1.1.2.2.2.2.2.1, 0, ()), ())).bind fun b2 =>
  (bif b2.1.2.2.2.2.1 then
  (bif b2.1.2.2.2.2.2.1 then
  some (.inr (.inl ((true, ()), ())))
  else
  some (.inl ((b2.1.1, b2.1.2.1, b2.1.2.2.1, (IntKind.i64.wrap (b2.1.2.2.2.1 + 1)), ()), ())))
  else
  some (.inl ((b2.1.1, b2.1.2.1, b2.1.2.2.1, (IntKind.i64.wrap (b2.1.2.2.2.1 + 1)), ()), ())))
  else
  some (.inr (.inr ((), ()))))
noncomputable def watershedlaw06_both_e1 : LE CT Try.prog := ⟨2, [0, 1, 2, 7], [.one (.sl 0), .one (.sl 0), .one (.sl 0), .one (.int .i64)], [], [⟨.ret, [6], [.one (.bool)], []⟩, ⟨.exit 0, [], [], []⟩], watershedlaw06_both_l1⟩
noncomputable def watershedlaw06_both_lt : List (LE CT Try.prog) := [watershedlaw06_both_e2, watershedlaw06_both_e3, watershedlaw06_both_e1]
theorem watershedlaw06_both_e2_ok : LeOk watershedlaw06_both_e2 (nthL (nthL (bodyOf Try.f10) 0) 0) := fun A env h k z hk => le_ok (E := watershedlaw06_both_e2) (orcOf_ok watershedlaw06_both_tb) (dr := watershedlaw06_both_dr) (lps := lpsOf watershedlaw06_both_lt) (no_loop (by kernel_rfl)) (fun a => by kernel_rfl) env h k z hk
theorem watershedlaw06_both_e3_ok : LeOk watershedlaw06_both_e3 (nthL (nthL (bodyOf Try.f10) 0) 1) := fun A env h k z hk => le_ok (E := watershedlaw06_both_e3) (orcOf_ok watershedlaw06_both_tb) (dr := watershedlaw06_both_dr) (lps := lpsOf watershedlaw06_both_lt) (no_loop (by kernel_rfl)) (fun a => by kernel_rfl) env h k z hk
theorem watershedlaw06_both_e1_ok : LeOk watershedlaw06_both_e1 (nthL (bodyOf Try.f10) 0) := fun A env h k z hk => le_ok (E := watershedlaw06_both_e1) (orcOf_ok watershedlaw06_both_tb) (dr := watershedlaw06_both_dr) (lps := lpsOf watershedlaw06_both_lt) (lps_of (n := 2) (by kernel_rfl) fun i hi => match i, hi with | 0, _ => lp_ok (E := watershedlaw06_both_e2) (by kernel_rfl) watershedlaw06_both_e2_ok | 1, _ => lp_ok (E := watershedlaw06_both_e3) (by kernel_rfl) watershedlaw06_both_e3_ok) (fun a => by kernel_rfl) env h k z hk
noncomputable def watershedlaw06_both (x0 : List (Int)) (x1 : List (Int)) (x2 : List (Int)) : Option ((Bool) × (Unit)) :=
  (loopM watershedlaw06_both_l1 ((x0, x1, x2, 0, ()), ())).bind fun b1 =>
  (match b1 with
  | .inl b2 =>
  some (b2.1.1, ())
  | .inr b3 =>
  some (false, ()))
noncomputable def watershedlaw06_both_ce : CE CT Try.prog where
  f := 10
  args := [.one (.sl 0), .one (.sl 0), .one (.sl 0)]
  hs := []
  res := .val (.one (.bool))
  outs := []
  m := fun d dh => watershedlaw06_both d.1 d.2.1 d.2.2.1
  ok := ce_ok mixedP Try.func10 (by kernel_rfl) (orcOf_ok watershedlaw06_both_tb) (dr := watershedlaw06_both_dr) (lps := lpsOf watershedlaw06_both_lt) (lps_fn (lps_of (n := 1) (by kernel_rfl) fun i hi => match i, hi with | 0, _ => lp_ok (E := watershedlaw06_both_e1) (by kernel_rfl) watershedlaw06_both_e1_ok)) (fun d dh => by kernel_rfl)

def watershedlaw06_QuorumMeet_dr : Nat → DrA
  | _ => ⟨[], [], [], [], []⟩
noncomputable def watershedlaw06_QuorumMeet_tb : List (CE CT Try.prog) := [watershedlaw06_awake_ce, watershedlaw06_great_ce, quorum_Agrees_ce, watershedlaw06_both_ce, quorum_Next_ce]
noncomputable def watershedlaw06_QuorumMeet_lt : List (LE CT Try.prog) := []
noncomputable def watershedlaw06_QuorumMeet (x0 : DConfig) (x1 : List (Int)) (x2 : List (Int)) : Option ((Bool) × (Unit)) :=
  (watershedlaw06_awake).bind fun r1 =>
  (bif (!r1.1) then
  some (false, ())
  else
  (watershedlaw06_great x0 x1).bind fun r2 =>
  (bif r2.1 then
  some (true, ())
  else
  (watershedlaw06_great x0 x2).bind fun r3 =>
  (bif r3.1 then
  some (true, ())
  else
  (quorum_Agrees x0 x1).bind fun r4 =>
  (bif (!r4.1) then
  some (true, ())
  else
  (quorum_Agrees x0 x2).bind fun r5 =>
  (bif r5.1 then
  (watershedlaw06_both x0.voters x1 x2).bind fun r6 =>
  (bif (!r6.1) then
  some (false, ())
  else
  (bif (decide ((0 : Int) < (x0.old.length : Int))) then
  (watershedlaw06_both x0.old x1 x2).bind fun r7 =>
  (bif (!r7.1) then
  some (false, ())
  else
  (quorum_Next x0).bind fun r8 =>
  (bif (!r8.1.2.1) then
  some (true, ())
  else
  (quorum_Agrees r8.1.1 x2).bind fun r9 =>
  (bif (!r9.1) then
  some (true, ())
  else
  (watershedlaw06_both x0.voters x1 x2).bind fun r10 =>
  some (r10.1, ()))))
  else
  (quorum_Next x0).bind fun r11 =>
  (bif (!r11.1.2.1) then
  some (true, ())
  else
  (quorum_Agrees r11.1.1 x2).bind fun r12 =>
  (bif (!r12.1) then
  some (true, ())
  else
  (watershedlaw06_both x0.voters x1 x2).bind fun r13 =>
  some (r13.1, ())))))
  else
  (quorum_Next x0).bind fun r14 =>
  (bif (!r14.1.2.1) then
  some (true, ())
  else
  (quorum_Agrees r14.1.1 x2).bind fun r15 =>
  (bif (!r15.1) then
  some (true, ())
  else
  (watershedlaw06_both x0.voters x1 x2).bind fun r16 =>
  some (r16.1, ()))))))))
noncomputable def watershedlaw06_QuorumMeet_ce : CE CT Try.prog where
  f := 3
  args := [.cod 4, .one (.sl 0), .one (.sl 0)]
  hs := []
  res := .val (.one (.bool))
  outs := []
  m := fun d dh => watershedlaw06_QuorumMeet d.1 d.2.1 d.2.2.1
  ok := ce_ok mixedP Try.func3 (by kernel_rfl) (orcOf_ok watershedlaw06_QuorumMeet_tb) (dr := watershedlaw06_QuorumMeet_dr) (lps := lpsOf watershedlaw06_QuorumMeet_lt) (lps_fn (no_loop (by kernel_rfl))) (fun d dh => by kernel_rfl)

def quorum_Right_dr : Nat → DrA
  | _ => ⟨[], [], [], [], []⟩
noncomputable def quorum_Right_tb : List (CE CT Try.prog) := [quorum_right_ce]
noncomputable def quorum_Right_lt : List (LE CT Try.prog) := []
noncomputable def quorum_Right (x0 : DConfig) : Option ((Bool) × (Unit)) :=
  (quorum_right (⟨x0⟩ : DGroup)).bind fun r1 =>
  some (r1.1, ())
noncomputable def quorum_Right_ce : CE CT Try.prog where
  f := 14
  args := [.cod 4]
  hs := []
  res := .val (.one (.bool))
  outs := []
  m := fun d dh => quorum_Right d.1
  ok := ce_ok mixedP Try.func14 (by kernel_rfl) (orcOf_ok quorum_Right_tb) (dr := quorum_Right_dr) (lps := lpsOf quorum_Right_lt) (lps_fn (no_loop (by kernel_rfl))) (fun d dh => by kernel_rfl)

def quorum_Votes_dr : Nat → DrA
  | _ => ⟨[], [], [], [], []⟩
noncomputable def quorum_Votes_tb : List (CE CT Try.prog) := [slices_Contains_ce]
noncomputable def quorum_Votes_lt : List (LE CT Try.prog) := []
noncomputable def quorum_Votes (x0 : DConfig) (x1 : Int) : Option ((Bool) × (Unit)) :=
  (slices_Contains x0.voters x1).bind fun r1 =>
  (bif r1.1 then
  some (true, ())
  else
  (slices_Contains x0.old x1).bind fun r2 =>
  some (r2.1, ()))
noncomputable def quorum_Votes_ce : CE CT Try.prog where
  f := 17
  args := [.cod 4, .one (.int .i64)]
  hs := []
  res := .val (.one (.bool))
  outs := []
  m := fun d dh => quorum_Votes d.1 d.2.1
  ok := ce_ok mixedP Try.func17 (by kernel_rfl) (orcOf_ok quorum_Votes_tb) (dr := quorum_Votes_dr) (lps := lpsOf quorum_Votes_lt) (lps_fn (no_loop (by kernel_rfl))) (fun d dh => by kernel_rfl)

def quorum_Has_dr : Nat → DrA
  | _ => ⟨[], [], [], [], []⟩
noncomputable def quorum_Has_tb : List (CE CT Try.prog) := [quorum_Votes_ce, slices_Contains_ce]
noncomputable def quorum_Has_lt : List (LE CT Try.prog) := []
noncomputable def quorum_Has (x0 : DConfig) (x1 : Int) : Option ((Bool) × (Unit)) :=
  (quorum_Votes x0 x1).bind fun r1 =>
  (bif r1.1 then
  some (true, ())
  else
  (slices_Contains x0.learners x1).bind fun r2 =>
  some (r2.1, ()))
noncomputable def quorum_Has_ce : CE CT Try.prog where
  f := 16
  args := [.cod 4, .one (.int .i64)]
  hs := []
  res := .val (.one (.bool))
  outs := []
  m := fun d dh => quorum_Has d.1 d.2.1
  ok := ce_ok mixedP Try.func16 (by kernel_rfl) (orcOf_ok quorum_Has_tb) (dr := quorum_Has_dr) (lps := lpsOf quorum_Has_lt) (lps_fn (no_loop (by kernel_rfl))) (fun d dh => by kernel_rfl)

def watershedlaw06_QuorumSteps_dr : Nat → DrA
  | 16 => ⟨[1, 2, 3, 0, 4, 5, 6, 7, 9, 10, 11, 8, 12, 13, 14, 15], [[], [], [], [1, 2], [1, 2, 3], [0, 1, 2, 3, 4], [0, 1, 2, 3, 4, 5], [0, 1, 2, 3, 4, 5, 6], [0, 1, 2, 3, 4, 5, 6, 7], [0, 1, 2, 3, 4, 5, 6, 7], [0, 1, 2, 3, 4, 5, 6, 7], [0, 1, 2, 3, 4, 5, 6, 7, 9, 10], [0, 1, 2, 3, 4, 5, 6, 7, 9, 10, 11], [0, 1, 2, 3, 4, 5, 6, 7, 8, 9, 10, 11, 12], [0, 1, 2, 3, 4, 5, 6, 7, 8, 9, 10, 11, 12, 13], [0, 1, 2, 3, 4, 5, 6, 7, 8, 9, 10, 11, 12, 13, 14]], [], [], []⟩
  | _ => ⟨[], [], [], [], []⟩
noncomputable def watershedlaw06_QuorumSteps_tb : List (CE CT Try.prog) := [watershedlaw06_awake_ce, watershedlaw06_great_ce, quorum_Begin_ce, watershedkit_SameConfig_ce, quorum_Next_ce, quorum_Right_ce, watershedkit_SameInts_ce, quorum_Has_ce, quorum_Votes_ce, quorum_Agrees_ce]
noncomputable def watershedlaw06_QuorumSteps_l1 (a : ((List (Int)) × (Unit) × (Unit) × (Unit) × (Unit) × (Int) × Unit) × ((DConfig) × (DConfig) × (DConfig) × (DConfig) × Unit)) : Option ((((List (Int)) × (Unit) × (Unit) × (Unit) × (Unit) × (Int) × Unit) × ((DConfig) × (DConfig) × (DConfig) × (DConfig) × Unit)) ⊕ ((((Bool) × Unit) × ((DConfig) × (DConfig) × (DConfig) × (DConfig) × Unit)) ⊕ (((List (Int)) × (Unit) × (Unit) × Unit) × ((DConfig) × (DConfig) × (DConfig) × (DConfig) × Unit)))) :=
  (bif (decide ((a.1.2.2.2.2.2.1 : Int) < (a.1.1.length : Int))) then
  (getI a.1.1 a.1.2.2.2.2.2.1).bind fun e1 =>
  (quorum_Has a.2.2.1 e1).bind fun r2 =>
  (bif (!r2.1) then
  some (.inr (.inl ((false, ()), (a.2.1, a.2.2.1, a.2.2.2.1, a.2.2.2.2.1, ()))))
  else
  (getI a.1.1 a.1.2.2.2.2.2.1).bind fun e3 =>
  (quorum_Votes a.2.2.2.1 e3).bind fun r4 =>
  (bif (!r4.1) then
  some (.inr (.inl ((false, ()), (a.2.1, a.2.2.1, a.2.2.2.1, a.2.2.2.2.1, ()))))
  else
  some (.inl ((a.1.1, (), (), (), (), (IntKind.i64.wrap (a.1.2.2.2.2.2.1 + 1)), ()), (a.2.1, a.2.2.1, a.2.2.2.1, a.2.2.2.2.1, ())))))
  else
  some (.inr (.inr ((a.1.1, (), (), ()), (a.2.1, a.2.2.1, a.2.2.2.1, a.2.2.2.2.1, ())))))
noncomputable def watershedlaw06_QuorumSteps_e1 : LE CT Try.prog := ⟨14, [1, 2, 5, 7, 9, 13], [.one (.sl 0), .one (.ptr 0 0), .one (.ptr 1 0), .one (.ptr 2 0), .one (.ptr 3 0), .one (.int .i64)], [.cobj 24 4, .cobj 24 4, .cobj 24 4, .cobj 24 4], [⟨.ret, [4], [.one (.bool)], [.cobj 24 4, .cobj 24 4, .cobj 24 4, .cobj 24 4]⟩, ⟨.exit 0, [1, 2, 9], [.one (.sl 0), .one (.ptr 0 0), .one (.ptr 3 0)], [.cobj 24 4, .cobj 24 4, .cobj 24 4, .cobj 24 4]⟩], watershedlaw06_QuorumSteps_l1⟩
noncomputable def watershedlaw06_QuorumSteps_lt : List (LE CT Try.prog) := [watershedlaw06_QuorumSteps_e1]
theorem watershedlaw06_QuorumSteps_e1_ok : LeOk watershedlaw06_QuorumSteps_e1 (nthL (bodyOf Try.f4) 0) := fun A env h k z hk => le_ok (E := watershedlaw06_QuorumSteps_e1) (orcOf_ok watershedlaw06_QuorumSteps_tb) (dr := watershedlaw06_QuorumSteps_dr) (lps := lpsOf watershedlaw06_QuorumSteps_lt) (no_loop (by kernel_rfl)) (fun a => by kernel_rfl) env h k z hk
noncomputable def watershedlaw06_QuorumSteps (x0 : DConfig) (x1 : List (Int)) : Option ((Bool) × (Unit)) :=
  (watershedlaw06_awake).bind fun r1 =>
  (bif (!r1.1) then
  some (false, ())
  else
  (watershedlaw06_great x0 x1).bind fun r2 =>
  (bif r2.1 then
  some (true, ())
  else
  (quorum_Begin x0 x1).bind fun r3 =>
  (bif (decide ((r3.1.2.1 : Int) ≠ 0)) then
  (watershedkit_SameConfig r3.1.1 (⟨[], [], [], []⟩ : DConfig)).bind fun r4 =>
  some (r4.1, ())
  else
  (quorum_Next r3.1.1).bind fun r5 =>
  (quorum_Next r5.1.1).bind fun r6 =>
  (quorum_Next r6.1.1).bind fun r7 =>
  (bif (!r5.1.2.1) then
  some (false, ())
  else
  (bif (!r6.1.2.1) then
  some (false, ())
  else
  (bif r7.1.2.1 then
  some (false, ())
  else
  (quorum_Right r3.1.1).bind fun r8 =>
  (bif (!r8.1) then
  some (false, ())
  else
  (quorum_Right r5.1.1).bind fun r9 =>
  (bif (!r9.1) then
  some (false, ())
  else
  (quorum_Right r6.1.1).bind fun r10 =>
  (bif (!r10.1) then
  some (false, ())
  else
  (watershedkit_SameInts r3.1.1.voters x0.voters).bind fun r11 =>
  (bif (!r11.1) then
  some (false, ())
  else
  (watershedkit_SameInts r5.1.1.old x0.voters).bind fun r12 =>
  (bif (!r12.1) then
  some (false, ())
  else
  (watershedkit_SameInts r5.1.1.voters x1).bind fun r13 =>
  (bif (!r13.1) then
  some (false, ())
  else
  (watershedkit_SameInts r6.1.1.voters x1).bind fun r14 =>
  (bif (!r14.1) then
  some (false, ())
  else
  (loopM watershedlaw06_QuorumSteps_l1 ((x1, (), (), (), (), 0, ()), (x0, r3.1.1, r5.1.1, r6.1.1, ()))).bind fun b15 =>
  (match b15 with
  | .inl b16 =>
  some (b16.1.1, ())
  | .inr b17 =>
  (quorum_Agrees b17.2.2.2.2.1 b17.1.1).bind fun r18 =>
  (bif r18.1 then
  (quorum_Agrees b17.2.1 b17.2.1.voters).bind fun r19 =>
  (bif r19.1 then
  (quorum_Agrees b17.2.2.2.2.1 []).bind fun r20 =>
  some ((!r20.1), ())
  else
  some (false, ()))
  else
  some (false, ()))))))))))))))))
noncomputable def watershedlaw06_QuorumSteps_ce : CE CT Try.prog where
  f := 4
  args := [.cod 4, .one (.sl 0)]
  hs := []
  res := .val (.one (.bool))
  outs := []
  m := fun d dh => watershedlaw06_QuorumSteps d.1 d.2.1
  ok := ce_ok mixedP Try.func4 (by kernel_rfl) (orcOf_ok watershedlaw06_QuorumSteps_tb) (dr := watershedlaw06_QuorumSteps_dr) (lps := lpsOf watershedlaw06_QuorumSteps_lt) (lps_fn (lps_of (n := 1) (by kernel_rfl) fun i hi => match i, hi with | 0, _ => lp_ok (E := watershedlaw06_QuorumSteps_e1) (by kernel_rfl) watershedlaw06_QuorumSteps_e1_ok)) (fun d dh => by kernel_rfl)
end Go.Proofs.Ythlalhjocefbbaa
