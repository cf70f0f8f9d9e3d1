/- Models, by program. -/
import Derived.Test.YtlaehnldaejipaaG1a
namespace Go.Proofs.Ytlaehnldaejipaa
noncomputable section
open Go.RowKit
set_option maxRecDepth 100000
set_option linter.unusedVariables false
def wk_KeptInts_2_tb : List (CEp) := [wk_mark_ce]
def wk_KeptInts_2_l1 (a : (LI × (Nat × Nat × Nat × Nat × Unit) × Int × Unit) × ((List (DEntryX)) × Unit)) : Option (((LI × (Nat × Nat × Nat × Nat × Unit) × Int × Unit) × ((List (DEntryX)) × Unit)) ⊕ (((Bool × Unit) × ((List (DEntryX)) × Unit)) ⊕ (Unit × ((List (DEntryX)) × Unit)))) :=
  (bif (decide ((a.1.2.2.1 : Int) < ((a.1.2.1.2.2.1 : Nat) : Int))) then
  (bif (decide ((a.1.2.2.1 : Int) < (a.1.1.length : Int))) then
  (if 0 ≤ (a.1.2.2.1 : Int) ∧ (a.1.2.2.1 : Int) < ((a.1.2.1.2.2.1 : Nat) : Int) then
  (getI a.1.1 a.1.2.2.1).bind fun e1 =>
  (a.2.1[a.1.2.1.1]?).bind fun e2 =>
  ((e2.config.old.1 ++ e2.config.old.2)[(a.1.2.1.2.1 + (a.1.2.2.1 : Int).toNat)]?).bind fun e3 =>
  (bif (!(decide ((e3 : Int) = e1))) then
  some (.inr (.inl ((false, ()), (a.2.1, ()))))
  else
  (bif (decide (((a.1.1.length : Int) : Int) ≤ a.1.2.2.1)) then
  (if 0 ≤ (a.1.2.2.1 : Int) ∧ (a.1.2.2.1 : Int) < ((a.1.2.1.2.2.1 : Nat) : Int) then
  (a.2.1[a.1.2.1.1]?).bind fun e4 =>
  ((e4.config.old.1 ++ e4.config.old.2)[(a.1.2.1.2.1 + (a.1.2.2.1 : Int).toNat)]?).bind fun e5 =>
  (wk_mark 1 (IntKind.i64.wrap (a.1.2.2.1 - (a.1.1.length : Int)))).bind fun r6 =>
  (bif (!(decide ((e5 : Int) = r6.1))) then
  some (.inr (.inl ((false, ()), (a.2.1, ()))))
  else
  some (.inl ((a.1.1, (a.1.2.1.1, a.1.2.1.2.1, a.1.2.1.2.2.1, a.1.2.1.2.2.2.1, ()), (IntKind.i64.wrap (a.1.2.2.1 + 1)), ()), (a.2.1, ()))))
  else none)
  else
  some (.inl ((a.1.1, (a.1.2.1.1, a.1.2.1.2.1, a.1.2.1.2.2.1, a.1.2.1.2.2.2.1, ()), (IntKind.i64.wrap (a.1.2.2.1 + 1)), ()), (a.2.1, ())))))
  else none)
  else
  (bif (decide (((a.1.1.length : Int) : Int) ≤ a.1.2.2.1)) then
  (if 0 ≤ (a.1.2.2.1 : Int) ∧ (a.1.2.2.1 : Int) < ((a.1.2.1.2.2.1 : Nat) : Int) then
  (a.2.1[a.1.2.1.1]?).bind fun e7 =>
  ((e7.config.old.1 ++ e7.config.old.2)[(a.1.2.1.2.1 + (a.1.2.2.1 : Int).toNat)]?).bind fun e8 =>
  (wk_mark 1 (IntKind.i64.wrap (a.1.2.2.1 - (a.1.1.length : Int)))).bind fun r9 =>
  (bif (!(decide ((e8 : Int) = r9.1))) then
  some (.inr (.inl ((false, ()), (a.2.1, ()))))
  else
  some (.inl ((a.1.1, (a.1.2.1.1, a.1.2.1.2.1, a.1.2.1.2.2.1, a.1.2.1.2.2.2.1, ()), (IntKind.i64.wrap (a.1.2.2.1 + 1)), ()), (a.2.1, ()))))
  else none)
  else
  some (.inl ((a.1.1, (a.1.2.1.1, a.1.2.1.2.1, a.1.2.1.2.2.1, a.1.2.1.2.2.2.1, ()), (IntKind.i64.wrap (a.1.2.2.1 + 1)), ()), (a.2.1, ())))))
  else
  some (.inr (.inr ((), (a.2.1, ())))))
def wk_KeptInts_2_e1 : LEp := ⟨5, [1, 5, 6], [.one (.sl 0), .one (.gv 0 1054 4), .one (.int .i64)], [.gen 8 true], [⟨.ret, [4], [.one (.bool)], [.gen 8 true]⟩, ⟨.exit 0, [], [], [.gen 8 true]⟩], wk_KeptInts_2_l1⟩
def wk_KeptInts_2_lt : List (LEp) := [wk_KeptInts_2_e1]
theorem wk_KeptInts_2_e1_ok : LeOk wk_KeptInts_2_e1 (nthL (bodyOf Try.f70) 0) := fun A env h k z hk => le_ok (E := wk_KeptInts_2_e1) (orcOfX_ok HK0 wk_KeptInts_2_tb) (dr := wk_KeptInts_2_dr) (lps := lpsOf wk_KeptInts_2_lt) (no_loop (by kernel_rfl)) (fun a => by kernel_rfl) env h k z hk
def wk_KeptInts_2 (x0 : Nat × Nat × Nat × Nat × Unit) (x1 : LI) (h0 : List (DEntryX)) : Option (Bool × ((List (DEntryX)) × Unit)) :=
  (bif (decide ((((x0.2.2.1 : Nat) : Int) : Int) ≠ (x1.length : Int))) then
  some (false, (h0, ()))
  else
  (if 0 ≤ (0 : Int) ∧ (0 : Int) ≤ ((IntKind.i64.wrap ((x1.length : Int) + 12)) : Int) ∧ ((IntKind.i64.wrap ((x1.length : Int) + 12)) : Int) ≤ ((x0.2.2.2.1 : Nat) : Int) ∧ ((0 : Int) = 0 ∨ (0 : Int) < ((x0.2.2.2.1 : Nat) : Int)) then
  (loopM wk_KeptInts_2_l1 ((x1, (x0.1, (x0.2.1 + (0 : Int).toNat), (((IntKind.i64.wrap ((x1.length : Int) + 12)) : Int).toNat - (0 : Int).toNat), (x0.2.2.2.1 - (0 : Int).toNat), ()), 0, ()), (h0, ()))).bind fun b1 =>
  (match b1 with
  | .inl b2 =>
  some (b2.1.1, (b2.2.1, ()))
  | .inr b3 =>
  some (true, (b3.2.1, ())))
  else none))
def wk_KeptInts_2_ce : CEp where
  f := 70
  args := [.one (.gv 0 1054 4), .one (.sl 0)]
  hs := [.gen 8 true]
  res := .val (.one (.bool))
  outs := [.gen 8 true]
  m := fun d dh => wk_KeptInts_2 d.1 d.2.1 dh.1
  ok := ce_ok mixedP Try.func70 (by kernel_rfl) (orcOfX_ok HK0 wk_KeptInts_2_tb) (dr := wk_KeptInts_2_dr) (lps := lpsOf wk_KeptInts_2_lt) (lps_fn (lps_of (n := 1) (by kernel_rfl) fun i hi => match i, hi with | 0, _ => lp_ok (E := wk_KeptInts_2_e1) (by kernel_rfl) wk_KeptInts_2_e1_ok)) (fun d dh => by kernel_rfl)

def wk_KeptInts_3_dr : Nat → Nat → DrA
  | 7, _ => ⟨(List.range 8 ++ [9, 10, 11, 8, 12, 13, 14, 15, 16, 17, 18, 19, 20, 21, 22, 23, 24, 26, 27, 28, 29, 25, 30, 31, 32, 33, 34]), [[], [], [1], [0, 1, 2], [0, 1, 2, 3], (List.range 5), (List.range 5), (List.range 7), (List.range 8), (List.range 5), (List.range 5), (List.range 5 ++ [9, 10]), (List.range 5 ++ [9, 10, 11]), (List.range 13), (List.range 14), (List.range 15), (List.range 16), (List.range 17), (List.range 17), (List.range 17 ++ [18]), (List.range 20), (List.range 21), (List.range 22), (List.range 22), (List.range 24), (List.range 25), (List.range 22), (List.range 22), (List.range 22 ++ [27]), (List.range 22 ++ [26, 27, 28]), (List.range 22 ++ [26, 27, 28, 29]), (List.range 31), (List.range 32), (List.range 33), (List.range 34)], [25], [30], [0], false, []⟩
  | _, _ => ⟨[], [], [], [], [], false, []⟩
def wk_KeptInts_3_tb : List (CEp) := [wk_mark_ce]
def wk_KeptInts_3_l1 (a : (LI × (Nat × Nat × Nat × Nat × Unit) × Int × Unit) × ((List (DEntryX)) × Unit)) : Option (((LI × (Nat × Nat × Nat × Nat × Unit) × Int × Unit) × ((List (DEntryX)) × Unit)) ⊕ (((Bool × Unit) × ((List (DEntryX)) × Unit)) ⊕ (Unit × ((List (DEntryX)) × Unit)))) :=
  (bif (decide ((a.1.2.2.1 : Int) < ((a.1.2.1.2.2.1 : Nat) : Int))) then
  (bif (decide ((a.1.2.2.1 : Int) < (a.1.1.length : Int))) then
  (if 0 ≤ (a.1.2.2.1 : Int) ∧ (a.1.2.2.1 : Int) < ((a.1.2.1.2.2.1 : Nat) : Int) then
  (getI a.1.1 a.1.2.2.1).bind fun e1 =>
  (a.2.1[a.1.2.1.1]?).bind fun e2 =>
  ((e2.config.learners.1 ++ e2.config.learners.2)[(a.1.2.1.2.1 + (a.1.2.2.1 : Int).toNat)]?).bind fun e3 =>
  (bif (!(decide ((e3 : Int) = e1))) then
  some (.inr (.inl ((false, ()), (a.2.1, ()))))
  else
  (bif (decide (((a.1.1.length : Int) : Int) ≤ a.1.2.2.1)) then
  (if 0 ≤ (a.1.2.2.1 : Int) ∧ (a.1.2.2.1 : Int) < ((a.1.2.1.2.2.1 : Nat) : Int) then
  (a.2.1[a.1.2.1.1]?).bind fun e4 =>
  ((e4.config.learners.1 ++ e4.config.learners.2)[(a.1.2.1.2.1 + (a.1.2.2.1 : Int).toNat)]?).bind fun e5 =>
  (wk_mark 1 (IntKind.i64.wrap (a.1.2.2.1 - (a.1.1.length : Int)))).bind fun r6 =>
  (bif (!(decide ((e5 : Int) = r6.1))) then
  some (.inr (.inl ((false, ()), (a.2.1, ()))))
  else
  some (.inl ((a.1.1, (a.1.2.1.1, a.1.2.1.2.1, a.1.2.1.2.2.1, a.1.2.1.2.2.2.1, ()), (IntKind.i64.wrap (a.1.2.2.1 + 1)), ()), (a.2.1, ()))))
  else none)
  else
  some (.inl ((a.1.1, (a.1.2.1.1, a.1.2.1.2.1, a.1.2.1.2.2.1, a.1.2.1.2.2.2.1, ()), (IntKind.i64.wrap (a.1.2.2.1 + 1)), ()), (a.2.1, ())))))
  else none)
  else
  (bif (decide (((a.1.1.length : Int) : Int) ≤ a.1.2.2.1)) then
  (if 0 ≤ (a.1.2.2.1 : Int) ∧ (a.1.2.2.1 : Int) < ((a.1.2.1.2.2.1 : Nat) : Int) then
  (a.2.1[a.1.2.1.1]?).bind fun e7 =>
  ((e7.config.learners.1 ++ e7.config.learners.2)[(a.1.2.1.2.1 + (a.1.2.2.1 : Int).toNat)]?).bind fun e8 =>
  (wk_mark 1 (IntKind.i64.wrap (a.1.2.2.1 - (a.1.1.length : Int)))).bind fun r9 =>
  (bif (!(decide ((e8 : Int) = r9.1))) then
  some (.inr (.inl ((false, ()), (a.2.1, ()))))
  else
  some (.inl ((a.1.1, (a.1.2.1.1, a.1.2.1.2.1, a.1.2.1.2.2.1, a.1.2.1.2.2.2.1, ()), (IntKind.i64.wrap (a.1.2.2.1 + 1)), ()), (a.2.1, ()))))
  else none)
  else
  some (.inl ((a.1.1, (a.1.2.1.1, a.1.2.1.2.1, a.1.2.1.2.2.1, a.1.2.1.2.2.2.1, ()), (IntKind.i64.wrap (a.1.2.2.1 + 1)), ()), (a.2.1, ())))))
  else
  some (.inr (.inr ((), (a.2.1, ())))))
def wk_KeptInts_3_e1 : LEp := ⟨5, [1, 5, 6], [.one (.sl 0), .one (.gv 0 1310 4), .one (.int .i64)], [.gen 8 true], [⟨.ret, [4], [.one (.bool)], [.gen 8 true]⟩, ⟨.exit 0, [], [], [.gen 8 true]⟩], wk_KeptInts_3_l1⟩
def wk_KeptInts_3_lt : List (LEp) := [wk_KeptInts_3_e1]
theorem wk_KeptInts_3_e1_ok : LeOk wk_KeptInts_3_e1 (nthL (bodyOf Try.f70) 0) := fun A env h k z hk => le_ok (E := wk_KeptInts_3_e1) (orcOfX_ok HK0 wk_KeptInts_3_tb) (dr := wk_KeptInts_3_dr) (lps := lpsOf wk_KeptInts_3_lt) (no_loop (by kernel_rfl)) (fun a => by kernel_rfl) env h k z hk
def wk_KeptInts_3 (x0 : Nat × Nat × Nat × Nat × Unit) (x1 : LI) (h0 : List (DEntryX)) : Option (Bool × ((List (DEntryX)) × Unit)) :=
  (bif (decide ((((x0.2.2.1 : Nat) : Int) : Int) ≠ (x1.length : Int))) then
  some (false, (h0, ()))
  else
  (if 0 ≤ (0 : Int) ∧ (0 : Int) ≤ ((IntKind.i64.wrap ((x1.length : Int) + 12)) : Int) ∧ ((IntKind.i64.wrap ((x1.length : Int) + 12)) : Int) ≤ ((x0.2.2.2.1 : Nat) : Int) ∧ ((0 : Int) = 0 ∨ (0 : Int) < ((x0.2.2.2.1 : Nat) : Int)) then
  (loopM wk_KeptInts_3_l1 ((x1, (x0.1, (x0.2.1 + (0 : Int).toNat), (((IntKind.i64.wrap ((x1.length : Int) + 12)) : Int).toNat - (0 : Int).toNat), (x0.2.2.2.1 - (0 : Int).toNat), ()), 0, ()), (h0, ()))).bind fun b1 =>
  (match b1 with
  | .inl b2 =>
  some (b2.1.1, (b2.2.1, ()))
  | .inr b3 =>
  some (true, (b3.2.1, ())))
  else none))
def wk_KeptInts_3_ce : CEp where
  f := 70
  args := [.one (.gv 0 1310 4), .one (.sl 0)]
  hs := [.gen 8 true]
  res := .val (.one (.bool))
  outs := [.gen 8 true]
  m := fun d dh => wk_KeptInts_3 d.1 d.2.1 dh.1
  ok := ce_ok mixedP Try.func70 (by kernel_rfl) (orcOfX_ok HK0 wk_KeptInts_3_tb) (dr := wk_KeptInts_3_dr) (lps := lpsOf wk_KeptInts_3_lt) (lps_fn (lps_of (n := 1) (by kernel_rfl) fun i hi => match i, hi with | 0, _ => lp_ok (E := wk_KeptInts_3_e1) (by kernel_rfl) wk_KeptInts_3_e1_ok)) (fun d dh => by kernel_rfl)

def wk_KeptInts_4_dr : Nat → Nat → DrA
  | 7, _ => ⟨(List.range 8 ++ [9, 10, 11, 8, 12, 13, 14, 15, 16, 17, 18, 19, 20, 21, 22, 23, 24, 26, 27, 28, 29, 25, 30, 31, 32, 33, 34]), [[], [], [1], [0, 1, 2], [0, 1, 2, 3], (List.range 5), (List.range 5), (List.range 7), (List.range 8), (List.range 5), (List.range 5), (List.range 5 ++ [9, 10]), (List.range 5 ++ [9, 10, 11]), (List.range 13), (List.range 14), (List.range 15), (List.range 16), (List.range 17), (List.range 17), (List.range 17 ++ [18]), (List.range 20), (List.range 21), (List.range 22), (List.range 22), (List.range 24), (List.range 25), (List.range 22), (List.range 22), (List.range 22 ++ [27]), (List.range 22 ++ [26, 27, 28]), (List.range 22 ++ [26, 27, 28, 29]), (List.range 31), (List.range 32), (List.range 33), (List.range 34)], [25], [30], [0], false, []⟩
  | _, _ => ⟨[], [], [], [], [], false, []⟩
def wk_KeptInts_4_tb : List (CEp) := [wk_mark_ce]
def wk_KeptInts_4_l1 (a : (LI × (Nat × Nat × Nat × Nat × Unit) × Int × Unit) × ((List (DEntryX)) × Unit)) : Option (((LI × (Nat × Nat × Nat × Nat × Unit) × Int × Unit) × ((List (DEntryX)) × Unit)) ⊕ (((Bool × Unit) × ((List (DEntryX)) × Unit)) ⊕ (Unit × ((List (DEntryX)) × Unit)))) :=
  (bif (decide ((a.1.2.2.1 : Int) < ((a.1.2.1.2.2.1 : Nat) : Int))) then
  (bif (decide ((a.1.2.2.1 : Int) < (a.1.1.length : Int))) then
  (if 0 ≤ (a.1.2.2.1 : Int) ∧ (a.1.2.2.1 : Int) < ((a.1.2.1.2.2.1 : Nat) : Int) then
  (getI a.1.1 a.1.2.2.1).bind fun e1 =>
  (a.2.1[a.1.2.1.1]?).bind fun e2 =>
  ((e2.config.want.1 ++ e2.config.want.2)[(a.1.2.1.2.1 + (a.1.2.2.1 : Int).toNat)]?).bind fun e3 =>
  (bif (!(decide ((e3 : Int) = e1))) then
  some (.inr (.inl ((false, ()), (a.2.1, ()))))
  else
  (bif (decide (((a.1.1.length : Int) : Int) ≤ a.1.2.2.1)) then
  (if 0 ≤ (a.1.2.2.1 : Int) ∧ (a.1.2.2.1 : Int) < ((a.1.2.1.2.2.1 : Nat) : Int) then
  (a.2.1[a.1.2.1.1]?).bind fun e4 =>
  ((e4.config.want.1 ++ e4.config.want.2)[(a.1.2.1.2.1 + (a.1.2.2.1 : Int).toNat)]?).bind fun e5 =>
  (wk_mark 1 (IntKind.i64.wrap (a.1.2.2.1 - (a.1.1.length : Int)))).bind fun r6 =>
  (bif (!(decide ((e5 : Int) = r6.1))) then
  some (.inr (.inl ((false, ()), (a.2.1, ()))))
  else
  some (.inl ((a.1.1, (a.1.2.1.1, a.1.2.1.2.1, a.1.2.1.2.2.1, a.1.2.1.2.2.2.1, ()), (IntKind.i64.wrap (a.1.2.2.1 + 1)), ()), (a.2.1, ()))))
  else none)
  else
  some (.inl ((a.1.1, (a.1.2.1.1, a.1.2.1.2.1, a.1.2.1.2.2.1, a.1.2.1.2.2.2.1, ()), (IntKind.i64.wrap (a.1.2.2.1 + 1)), ()), (a.2.1, ())))))
  else none)
  else
  (bif (decide (((a.1.1.length : Int) : Int) ≤ a.1.2.2.1)) then
  (if 0 ≤ (a.1.2.2.1 : Int) ∧ (a.1.2.2.1 : Int) < ((a.1.2.1.2.2.1 : Nat) : Int) then
  (a.2.1[a.1.2.1.1]?).bind fun e7 =>
  ((e7.config.want.1 ++ e7.config.want.2)[(a.1.2.1.2.1 + (a.1.2.2.1 : Int).toNat)]?).bind fun e8 =>
  (wk_mark 1 (IntKind.i64.wrap (a.1.2.2.1 - (a.1.1.length : Int)))).bind fun r9 =>
  (bif (!(decide ((e8 : Int) = r9.1))) then
  some (.inr (.inl ((false, ()), (a.2.1, ()))))
  else
  some (.inl ((a.1.1, (a.1.2.1.1, a.1.2.1.2.1, a.1.2.1.2.2.1, a.1.2.1.2.2.2.1, ()), (IntKind.i64.wrap (a.1.2.2.1 + 1)), ()), (a.2.1, ()))))
  else none)
  else
  some (.inl ((a.1.1, (a.1.2.1.1, a.1.2.1.2.1, a.1.2.1.2.2.1, a.1.2.1.2.2.2.1, ()), (IntKind.i64.wrap (a.1.2.2.1 + 1)), ()), (a.2.1, ())))))
  else
  some (.inr (.inr ((), (a.2.1, ())))))
def wk_KeptInts_4_e1 : LEp := ⟨5, [1, 5, 6], [.one (.sl 0), .one (.gv 0 1566 4), .one (.int .i64)], [.gen 8 true], [⟨.ret, [4], [.one (.bool)], [.gen 8 true]⟩, ⟨.exit 0, [], [], [.gen 8 true]⟩], wk_KeptInts_4_l1⟩
def wk_KeptInts_4_lt : List (LEp) := [wk_KeptInts_4_e1]
theorem wk_KeptInts_4_e1_ok : LeOk wk_KeptInts_4_e1 (nthL (bodyOf Try.f70) 0) := fun A env h k z hk => le_ok (E := wk_KeptInts_4_e1) (orcOfX_ok HK0 wk_KeptInts_4_tb) (dr := wk_KeptInts_4_dr) (lps := lpsOf wk_KeptInts_4_lt) (no_loop (by kernel_rfl)) (fun a => by kernel_rfl) env h k z hk
def wk_KeptInts_4 (x0 : Nat × Nat × Nat × Nat × Unit) (x1 : LI) (h0 : List (DEntryX)) : Option (Bool × ((List (DEntryX)) × Unit)) :=
  (bif (decide ((((x0.2.2.1 : Nat) : Int) : Int) ≠ (x1.length : Int))) then
  some (false, (h0, ()))
  else
  (if 0 ≤ (0 : Int) ∧ (0 : Int) ≤ ((IntKind.i64.wrap ((x1.length : Int) + 12)) : Int) ∧ ((IntKind.i64.wrap ((x1.length : Int) + 12)) : Int) ≤ ((x0.2.2.2.1 : Nat) : Int) ∧ ((0 : Int) = 0 ∨ (0 : Int) < ((x0.2.2.2.1 : Nat) : Int)) then
  (loopM wk_KeptInts_4_l1 ((x1, (x0.1, (x0.2.1 + (0 : Int).toNat), (((IntKind.i64.wrap ((x1.length : Int) + 12)) : Int).toNat - (0 : Int).toNat), (x0.2.2.2.1 - (0 : Int).toNat), ()), 0, ()), (h0, ()))).bind fun b1 =>
  (match b1 with
  | .inl b2 =>
  some (b2.1.1, (b2.2.1, ()))
  | .inr b3 =>
  some (true, (b3.2.1, ())))
  else none))
def wk_KeptInts_4_ce : CEp where
  f := 70
  args := [.one (.gv 0 1566 4), .one (.sl 0)]
  hs := [.gen 8 true]
  res := .val (.one (.bool))
  outs := [.gen 8 true]
  m := fun d dh => wk_KeptInts_4 d.1 d.2.1 dh.1
  ok := ce_ok mixedP Try.func70 (by kernel_rfl) (orcOfX_ok HK0 wk_KeptInts_4_tb) (dr := wk_KeptInts_4_dr) (lps := lpsOf wk_KeptInts_4_lt) (lps_fn (lps_of (n := 1) (by kernel_rfl) fun i hi => match i, hi with | 0, _ => lp_ok (E := wk_KeptInts_4_e1) (by kernel_rfl) wk_KeptInts_4_e1_ok)) (fun d dh => by kernel_rfl)

def wk_KeptConfig_tb : List (CEp) := [wk_SameConfig_4_ce, wk_KeptInts_ce, wk_KeptInts_2_ce, wk_KeptInts_3_ce, wk_KeptInts_4_ce]
def wk_KeptConfig (x0 : (Nat × Nat × Nat × Nat × Unit) × (Nat × Nat × Nat × Nat × Unit) × (Nat × Nat × Nat × Nat × Unit) × (Nat × Nat × Nat × Nat × Unit) × Unit) (x1 : DConfig) (h0 : List (DEntryX)) : Option (Bool × ((List (DEntryX)) × Unit)) :=
  (wk_SameConfig_4 ((x0.1.1, x0.1.2.1, x0.1.2.2.1, x0.1.2.2.2.1, ()), (x0.2.1.1, x0.2.1.2.1, x0.2.1.2.2.1, x0.2.1.2.2.2.1, ()), (x0.2.2.1.1, x0.2.2.1.2.1, x0.2.2.1.2.2.1, x0.2.2.1.2.2.2.1, ()), (x0.2.2.2.1.1, x0.2.2.2.1.2.1, x0.2.2.2.1.2.2.1, x0.2.2.2.1.2.2.2.1, ()), ()) x1 h0).bind fun r1 =>
  (bif r1.1 then
  (wk_KeptInts (x0.1.1, x0.1.2.1, x0.1.2.2.1, x0.1.2.2.2.1, ()) x1.voters r1.2.1).bind fun r2 =>
  (bif r2.1 then
  (wk_KeptInts_2 (x0.2.1.1, x0.2.1.2.1, x0.2.1.2.2.1, x0.2.1.2.2.2.1, ()) x1.old r2.2.1).bind fun r3 =>
  (bif r3.1 then
  (wk_KeptInts_3 (x0.2.2.1.1, x0.2.2.1.2.1, x0.2.2.1.2.2.1, x0.2.2.1.2.2.2.1, ()) x1.learners r3.2.1).bind fun r4 =>
  (bif r4.1 then
  (wk_KeptInts_4 (x0.2.2.2.1.1, x0.2.2.2.1.2.1, x0.2.2.2.1.2.2.1, x0.2.2.2.1.2.2.2.1, ()) x1.want r4.2.1).bind fun r5 =>
  some (r5.1, (r5.2.1, ()))
  else
  some (false, (r4.2.1, ())))
  else
  some (false, (r3.2.1, ())))
  else
  some (false, (r2.2.1, ())))
  else
  some (false, (r1.2.1, ())))
def wk_KeptConfig_ce : CEp where
  f := 63
  args := [.agg [.gv 0 798 4, .gv 0 1054 4, .gv 0 1310 4, .gv 0 1566 4], .cod 13]
  hs := [.gen 8 true]
  res := .val (.one (.bool))
  outs := [.gen 8 true]
  m := fun d dh => wk_KeptConfig d.1 d.2.1 dh.1
  ok := ceO Try.func63 (by kernel_rfl) wk_KeptConfig_tb (by kernel_rfl) fun d dh => by kernel_rfl

def wk_KeptEntry_tb : List (CEp) := [wk_SameEntry_2_ce, wk_KeptBytes_ce, wk_KeptConfig_ce]
def wk_KeptEntry (x0 : Int × Int × (Nat × Nat × Nat × Nat × Unit) × (Nat × Nat × Nat × Nat × Unit) × (Nat × Nat × Nat × Nat × Unit) × (Nat × Nat × Nat × Nat × Unit) × (Nat × Nat × Nat × Nat × Unit) × Unit) (x1 : DEntry) (h0 : List (DEntryX)) : Option (Bool × ((List (DEntryX)) × Unit)) :=
  (wk_SameEntry_2 (x0.1, x0.2.1, (x0.2.2.1.1, x0.2.2.1.2.1, x0.2.2.1.2.2.1, x0.2.2.1.2.2.2.1, ()), (x0.2.2.2.1.1, x0.2.2.2.1.2.1, x0.2.2.2.1.2.2.1, x0.2.2.2.1.2.2.2.1, ()), (x0.2.2.2.2.1.1, x0.2.2.2.2.1.2.1, x0.2.2.2.2.1.2.2.1, x0.2.2.2.2.1.2.2.2.1, ()), (x0.2.2.2.2.2.1.1, x0.2.2.2.2.2.1.2.1, x0.2.2.2.2.2.1.2.2.1, x0.2.2.2.2.2.1.2.2.2.1, ()), (x0.2.2.2.2.2.2.1.1, x0.2.2.2.2.2.2.1.2.1, x0.2.2.2.2.2.2.1.2.2.1, x0.2.2.2.2.2.2.1.2.2.2.1, ()), ()) x1 h0).bind fun r1 =>
  (bif r1.1 then
  (wk_KeptBytes (x0.2.2.1.1, x0.2.2.1.2.1, x0.2.2.1.2.2.1, x0.2.2.1.2.2.2.1, ()) x1.command r1.2.1).bind fun r2 =>
  (bif r2.1 then
  (wk_KeptConfig ((x0.2.2.2.1.1, x0.2.2.2.1.2.1, x0.2.2.2.1.2.2.1, x0.2.2.2.1.2.2.2.1, ()), (x0.2.2.2.2.1.1, x0.2.2.2.2.1.2.1, x0.2.2.2.2.1.2.2.1, x0.2.2.2.2.1.2.2.2.1, ()), (x0.2.2.2.2.2.1.1, x0.2.2.2.2.2.1.2.1, x0.2.2.2.2.2.1.2.2.1, x0.2.2.2.2.2.1.2.2.2.1, ()), (x0.2.2.2.2.2.2.1.1, x0.2.2.2.2.2.2.1.2.1, x0.2.2.2.2.2.2.1.2.2.1, x0.2.2.2.2.2.2.1.2.2.2.1, ()), ()) x1.config r2.2.1).bind fun r3 =>
  some (r3.1, (r3.2.1, ()))
  else
  some (false, (r2.2.1, ())))
  else
  some (false, (r1.2.1, ())))
def wk_KeptEntry_ce : CEp where
  f := 62
  args := [.agg [.int .i64, .int .u8, .gv 0 542 4, .gv 0 798 4, .gv 0 1054 4, .gv 0 1310 4, .gv 0 1566 4], .cod 18]
  hs := [.gen 8 true]
  res := .val (.one (.bool))
  outs := [.gen 8 true]
  m := fun d dh => wk_KeptEntry d.1 d.2.1 dh.1
  ok := ceO Try.func62 (by kernel_rfl) wk_KeptEntry_tb (by kernel_rfl) fun d dh => by kernel_rfl

def wk_KeptEntries_dr : Nat → Nat → DrA
  | 7, _ => ⟨(List.range 8 ++ [9, 10, 11, 8, 12, 13, 14, 15, 16, 17, 18, 19, 20, 21, 22, 23, 24, 26, 27, 28, 29, 25, 30, 31, 32, 33, 34]), [[], [], [1], [0, 1, 2], [0, 1, 2, 3], (List.range 5), (List.range 5), (List.range 7), (List.range 8), (List.range 5), (List.range 5), (List.range 5 ++ [9, 10]), (List.range 5 ++ [9, 10, 11]), (List.range 13), (List.range 14), (List.range 15), (List.range 16), (List.range 17), (List.range 17), (List.range 17 ++ [18]), (List.range 20), (List.range 21), (List.range 22), (List.range 22), (List.range 24), (List.range 25), (List.range 22), (List.range 22), (List.range 22 ++ [27]), (List.range 22 ++ [26, 27, 28]), (List.range 22 ++ [26, 27, 28, 29]), (List.range 31), (List.range 32), (List.range 33), (List.range 34)], [25], [30], [0], false, []⟩
  | _, _ => ⟨[], [], [], [], [], false, []⟩
def wk_KeptEntries_tb : List (CEp) := [wk_KeptEntry_ce, wk_markEntry_ce, wk_SameEntry_2_ce]
def wk_KeptEntries_l1 (a : ((List (DEntry)) × (Nat × Nat × Nat × Unit) × Int × Unit) × ((List (DEntryX)) × Unit)) : Option ((((List (DEntry)) × (Nat × Nat × Nat × Unit) × Int × Unit) × ((List (DEntryX)) × Unit)) ⊕ (((Bool × Unit) × ((List (DEntryX)) × Unit)) ⊕ (Unit × ((List (DEntryX)) × Unit)))) :=
  (bif (decide ((a.1.2.2.1 : Int) < ((a.1.2.1.2.1 : Nat) : Int))) then
  (bif (decide ((a.1.2.2.1 : Int) < (a.1.1.length : Int))) then
  (if 0 ≤ (a.1.2.2.1 : Int) ∧ (a.1.2.2.1 : Int) < ((a.1.2.1.2.1 : Nat) : Int) then
  (getI a.1.1 a.1.2.2.1).bind fun e1 =>
  (a.2.1[(a.1.2.1.1 + (a.1.2.2.1 : Int).toNat)]?).bind fun e2 =>
  (wk_KeptEntry (e2.term_, e2.kind, ((a.1.2.1.1 + (a.1.2.2.1 : Int).toNat), 0, e2.command.1.length, (e2.command.1.length + e2.command.2.length), ()), ((a.1.2.1.1 + (a.1.2.2.1 : Int).toNat), 0, e2.config.voters.1.length, (e2.config.voters.1.length + e2.config.voters.2.length), ()), ((a.1.2.1.1 + (a.1.2.2.1 : Int).toNat), 0, e2.config.old.1.length, (e2.config.old.1.length + e2.config.old.2.length), ()), ((a.1.2.1.1 + (a.1.2.2.1 : Int).toNat), 0, e2.config.learners.1.length, (e2.config.learners.1.length + e2.config.learners.2.length), ()), ((a.1.2.1.1 + (a.1.2.2.1 : Int).toNat), 0, e2.config.want.1.length, (e2.config.want.1.length + e2.config.want.2.length), ()), ()) e1 a.2.1).bind fun r3 =>
  (bif (!r3.1) then
  some (.inr (.inl ((false, ()), (r3.2.1, ()))))
  else
  (bif (decide (((a.1.1.length : Int) : Int) ≤ a.1.2.2.1)) then
  (if 0 ≤ (a.1.2.2.1 : Int) ∧ (a.1.2.2.1 : Int) < ((a.1.2.1.2.1 : Nat) : Int) then
  (r3.2.1[(a.1.2.1.1 + (a.1.2.2.1 : Int).toNat)]?).bind fun e4 =>
  (wk_markEntry 1 (IntKind.i64.wrap (a.1.2.2.1 - (a.1.1.length : Int)))).bind fun r5 =>
  (wk_SameEntry_2 (e4.term_, e4.kind, ((a.1.2.1.1 + (a.1.2.2.1 : Int).toNat), 0, e4.command.1.length, (e4.command.1.length + e4.command.2.length), ()), ((a.1.2.1.1 + (a.1.2.2.1 : Int).toNat), 0, e4.config.voters.1.length, (e4.config.voters.1.length + e4.config.voters.2.length), ()), ((a.1.2.1.1 + (a.1.2.2.1 : Int).toNat), 0, e4.config.old.1.length, (e4.config.old.1.length + e4.config.old.2.length), ()), ((a.1.2.1.1 + (a.1.2.2.1 : Int).toNat), 0, e4.config.learners.1.length, (e4.config.learners.1.length + e4.config.learners.2.length), ()), ((a.1.2.1.1 + (a.1.2.2.1 : Int).toNat), 0, e4.config.want.1.length, (e4.config.want.1.length + e4.config.want.2.length), ()), ()) (⟨r5.1.1, r5.1.2.1, [], (⟨[], [], [], []⟩ : DConfig)⟩ : DEntry) r3.2.1).bind fun r6 =>
  (bif (!r6.1) then
  some (.inr (.inl ((false, ()), (r6.2.1, ()))))
  else
  some (.inl ((a.1.1, (a.1.2.1.1, a.1.2.1.2.1, a.1.2.1.2.2.1, ()), (IntKind.i64.wrap (a.1.2.2.1 + 1)), ()), (r6.2.1, ()))))
  else none)
  else
  some (.inl ((a.1.1, (a.1.2.1.1, a.1.2.1.2.1, a.1.2.1.2.2.1, ()), (IntKind.i64.wrap (a.1.2.2.1 + 1)), ()), (r3.2.1, ())))))
  else none)
  else
  (bif (decide (((a.1.1.length : Int) : Int) ≤ a.1.2.2.1)) then
  (if 0 ≤ (a.1.2.2.1 : Int) ∧ (a.1.2.2.1 : Int) < ((a.1.2.1.2.1 : Nat) : Int) then
  (a.2.1[(a.1.2.1.1 + (a.1.2.2.1 : Int).toNat)]?).bind fun e7 =>
  (wk_markEntry 1 (IntKind.i64.wrap (a.1.2.2.1 - (a.1.1.length : Int)))).bind fun r8 =>
  (wk_SameEntry_2 (e7.term_, e7.kind, ((a.1.2.1.1 + (a.1.2.2.1 : Int).toNat), 0, e7.command.1.length, (e7.command.1.length + e7.command.2.length), ()), ((a.1.2.1.1 + (a.1.2.2.1 : Int).toNat), 0, e7.config.voters.1.length, (e7.config.voters.1.length + e7.config.voters.2.length), ()), ((a.1.2.1.1 + (a.1.2.2.1 : Int).toNat), 0, e7.config.old.1.length, (e7.config.old.1.length + e7.config.old.2.length), ()), ((a.1.2.1.1 + (a.1.2.2.1 : Int).toNat), 0, e7.config.learners.1.length, (e7.config.learners.1.length + e7.config.learners.2.length), ()), ((a.1.2.1.1 + (a.1.2.2.1 : Int).toNat), 0, e7.config.want.1.length, (e7.config.want.1.length + e7.config.want.2.length), ()), ()) (⟨r8.1.1, r8.1.2.1, [], (⟨[], [], [], []⟩ : DConfig)⟩ : DEntry) a.2.1).bind fun r9 =>
  (bif (!r9.1) then
  some (.inr (.inl ((false, ()), (r9.2.1, ()))))
  else
  some (.inl ((a.1.1, (a.1.2.1.1, a.1.2.1.2.1, a.1.2.1.2.2.1, ()), (IntKind.i64.wrap (a.1.2.2.1 + 1)), ()), (r9.2.1, ()))))
  else none)
  else
  some (.inl ((a.1.1, (a.1.2.1.1, a.1.2.1.2.1, a.1.2.1.2.2.1, ()), (IntKind.i64.wrap (a.1.2.2.1 + 1)), ()), (a.2.1, ())))))
  else
  some (.inr (.inr ((), (a.2.1, ())))))
def wk_KeptEntries_e1 : LEp := ⟨5, [1, 5, 6], [.one (.sl 18), .one (.gv 0 28 3), .one (.int .i64)], [.gen 8 true], [⟨.ret, [4], [.one (.bool)], [.gen 8 true]⟩, ⟨.exit 0, [], [], [.gen 8 true]⟩], wk_KeptEntries_l1⟩
def wk_KeptEntries_lt : List (LEp) := [wk_KeptEntries_e1]
theorem wk_KeptEntries_e1_ok : LeOk wk_KeptEntries_e1 (nthL (bodyOf Try.f43) 0) := fun A env h k z hk => le_ok (E := wk_KeptEntries_e1) (orcOfX_ok HK0 wk_KeptEntries_tb) (dr := wk_KeptEntries_dr) (lps := lpsOf wk_KeptEntries_lt) (no_loop (by kernel_rfl)) (fun a => by kernel_rfl) env h k z hk
def wk_KeptEntries (x0 : Nat × Nat × Nat × Unit) (x1 : List (DEntry)) (h0 : List (DEntryX)) : Option (Bool × ((List (DEntryX)) × Unit)) :=
  (bif (decide ((((x0.2.1 : Nat) : Int) : Int) ≠ (x1.length : Int))) then
  some (false, (h0, ()))
  else
  (if 0 ≤ (0 : Int) ∧ (0 : Int) ≤ ((IntKind.i64.wrap ((x1.length : Int) + 12)) : Int) ∧ ((IntKind.i64.wrap ((x1.length : Int) + 12)) : Int) ≤ ((x0.2.2.1 - x0.1 : Nat) : Int) ∧ (0 : Int) < ((x0.2.2.1 - x0.1 : Nat) : Int) then
  (loopM wk_KeptEntries_l1 ((x1, ((x0.1 + (0 : Int).toNat), (((IntKind.i64.wrap ((x1.length : Int) + 12)) : Int).toNat - (0 : Int).toNat), x0.2.2.1, ()), 0, ()), (h0, ()))).bind fun b1 =>
  (match b1 with
  | .inl b2 =>
  some (b2.1.1, (b2.2.1, ()))
  | .inr b3 =>
  some (true, (b3.2.1, ())))
  else none))
def wk_KeptEntries_ce : CEp where
  f := 43
  args := [.one (.gv 0 28 3), .one (.sl 18)]
  hs := [.gen 8 true]
  res := .val (.one (.bool))
  outs := [.gen 8 true]
  m := fun d dh => wk_KeptEntries d.1 d.2.1 dh.1
  ok := ce_ok mixedP Try.func43 (by kernel_rfl) (orcOfX_ok HK0 wk_KeptEntries_tb) (dr := wk_KeptEntries_dr) (lps := lpsOf wk_KeptEntries_lt) (lps_fn (lps_of (n := 1) (by kernel_rfl) fun i hi => match i, hi with | 0, _ => lp_ok (E := wk_KeptEntries_e1) (by kernel_rfl) wk_KeptEntries_e1_ok)) (fun d dh => by kernel_rfl)

def wk_KeptInts_5_dr : Nat → Nat → DrA
  | 7, _ => ⟨(List.range 8 ++ [9, 10, 11, 8, 12, 13, 14, 15, 16, 17, 18, 19, 20, 21, 22, 23, 24, 26, 27, 28, 29, 25, 30, 31, 32, 33, 34]), [[], [], [1], [0, 1, 2], [0, 1, 2, 3], (List.range 5), (List.range 5), (List.range 7), (List.range 8), (List.range 5), (List.range 5), (List.range 5 ++ [9, 10]), (List.range 5 ++ [9, 10, 11]), (List.range 13), (List.range 14), (List.range 15), (List.range 16), (List.range 17), (List.range 17), (List.range 17 ++ [18]), (List.range 20), (List.range 21), (List.range 22), (List.range 22), (List.range 24), (List.range 25), (List.range 22), (List.range 22), (List.range 22 ++ [27]), (List.range 22 ++ [26, 27, 28]), (List.range 22 ++ [26, 27, 28, 29]), (List.range 31), (List.range 32), (List.range 33), (List.range 34)], [25], [30], [0], false, []⟩
  | _, _ => ⟨[], [], [], [], [], false, []⟩
def wk_KeptInts_5_tb : List (CEp) := [wk_mark_ce]
def wk_KeptInts_5_l1 (a : (LI × (Nat × Nat × Nat) × Int × Unit) × (LI × Unit)) : Option (((LI × (Nat × Nat × Nat) × Int × Unit) × (LI × Unit)) ⊕ (((Bool × Unit) × (LI × Unit)) ⊕ (Unit × (LI × Unit)))) :=
  (bif (decide ((a.1.2.2.1 : Int) < ((a.1.2.1.2.1 : Nat) : Int))) then
  (bif (decide ((a.1.2.2.1 : Int) < (a.1.1.length : Int))) then
  (if 0 ≤ (a.1.2.2.1 : Int) ∧ (a.1.2.2.1 : Int) < ((a.1.2.1.2.1 : Nat) : Int) then
  (getI a.1.1 a.1.2.2.1).bind fun e1 =>
  (a.2.1[(a.1.2.1.1 + (a.1.2.2.1 : Int).toNat)]?).bind fun e2 =>
  (bif (!(decide ((e2 : Int) = e1))) then
  some (.inr (.inl ((false, ()), (a.2.1, ()))))
  else
  (bif (decide (((a.1.1.length : Int) : Int) ≤ a.1.2.2.1)) then
  (if 0 ≤ (a.1.2.2.1 : Int) ∧ (a.1.2.2.1 : Int) < ((a.1.2.1.2.1 : Nat) : Int) then
  (a.2.1[(a.1.2.1.1 + (a.1.2.2.1 : Int).toNat)]?).bind fun e3 =>
  (wk_mark 1 (IntKind.i64.wrap (a.1.2.2.1 - (a.1.1.length : Int)))).bind fun r4 =>
  (bif (!(decide ((e3 : Int) = r4.1))) then
  some (.inr (.inl ((false, ()), (a.2.1, ()))))
  else
  some (.inl ((a.1.1, (a.1.2.1.1, a.1.2.1.2.1, a.1.2.1.2.2), (IntKind.i64.wrap (a.1.2.2.1 + 1)), ()), (a.2.1, ()))))
  else none)
  else
  some (.inl ((a.1.1, (a.1.2.1.1, a.1.2.1.2.1, a.1.2.1.2.2), (IntKind.i64.wrap (a.1.2.2.1 + 1)), ()), (a.2.1, ())))))
  else none)
  else
  (bif (decide (((a.1.1.length : Int) : Int) ≤ a.1.2.2.1)) then
  (if 0 ≤ (a.1.2.2.1 : Int) ∧ (a.1.2.2.1 : Int) < ((a.1.2.1.2.1 : Nat) : Int) then
  (a.2.1[(a.1.2.1.1 + (a.1.2.2.1 : Int).toNat)]?).bind fun e5 =>
  (wk_mark 1 (IntKind.i64.wrap (a.1.2.2.1 - (a.1.1.length : Int)))).bind fun r6 =>
  (bif (!(decide ((e5 : Int) = r6.1))) then
  some (.inr (.inl ((false, ()), (a.2.1, ()))))
  else
  some (.inl ((a.1.1, (a.1.2.1.1, a.1.2.1.2.1, a.1.2.1.2.2), (IntKind.i64.wrap (a.1.2.2.1 + 1)), ()), (a.2.1, ()))))
  else none)
  else
  some (.inl ((a.1.1, (a.1.2.1.1, a.1.2.1.2.1, a.1.2.1.2.2), (IntKind.i64.wrap (a.1.2.2.1 + 1)), ()), (a.2.1, ())))))
  else
  some (.inr (.inr ((), (a.2.1, ())))))
def wk_KeptInts_5_e1 : LEp := ⟨5, [1, 5, 6], [.one (.sl 0), .one (.as 0 0), .one (.int .i64)], [.arr 3 0 true], [⟨.ret, [4], [.one (.bool)], [.arr 3 0 true]⟩, ⟨.exit 0, [], [], [.arr 3 0 true]⟩], wk_KeptInts_5_l1⟩
def wk_KeptInts_5_lt : List (LEp) := [wk_KeptInts_5_e1]
theorem wk_KeptInts_5_e1_ok : LeOk wk_KeptInts_5_e1 (nthL (bodyOf Try.f70) 0) := fun A env h k z hk => le_ok (E := wk_KeptInts_5_e1) (orcOf_ok wk_KeptInts_5_tb) (dr := wk_KeptInts_5_dr) (lps := lpsOf wk_KeptInts_5_lt) (no_loop (by kernel_rfl)) (fun a => by kernel_rfl) env h k z hk
def wk_KeptInts_5 (x0 : Nat × Nat × Nat) (x1 : LI) (h0 : LI) : Option (Bool × (LI × Unit)) :=
  (bif (decide ((((x0.2.1 : Nat) : Int) : Int) ≠ (x1.length : Int))) then
  some (false, (h0, ()))
  else
  (if 0 ≤ ((0 : Int) : Int) ∧ ((0 : Int) : Int) ≤ ((IntKind.i64.wrap ((x1.length : Int) + 12)) : Int) ∧ ((IntKind.i64.wrap ((x1.length : Int) + 12)) : Int) ≤ ((x0.2.2 : Nat) : Int) ∧ ((IntKind.i64.wrap ((x1.length : Int) + 12)) : Int) ≤ 140737488355328 then
  (loopM wk_KeptInts_5_l1 ((x1, ((x0.1 + (0 : Int).toNat), (((IntKind.i64.wrap ((x1.length : Int) + 12)) : Int).toNat - (0 : Int).toNat), (x0.2.2 - (0 : Int).toNat)), 0, ()), (h0, ()))).bind fun b1 =>
  (match b1 with
  | .inl b2 =>
  some (b2.1.1, (b2.2.1, ()))
  | .inr b3 =>
  some (true, (b3.2.1, ())))
  else none))
def wk_KeptInts_5_ce : CEp where
  f := 70
  args := [.one (.as 0 0), .one (.sl 0)]
  hs := [.arr 3 0 true]
  res := .val (.one (.bool))
  outs := [.arr 3 0 true]
  m := fun d dh => wk_KeptInts_5 d.1 d.2.1 dh.1
  ok := ce_ok mixedP Try.func70 (by kernel_rfl) (orcOf_ok wk_KeptInts_5_tb) (dr := wk_KeptInts_5_dr) (lps := lpsOf wk_KeptInts_5_lt) (lps_fn (lps_of (n := 1) (by kernel_rfl) fun i hi => match i, hi with | 0, _ => lp_ok (E := wk_KeptInts_5_e1) (by kernel_rfl) wk_KeptInts_5_e1_ok)) (fun d dh => by kernel_rfl)

def wk_KeptConfig_2_tb : List (CEp) := [wk_SameConfig_5_ce, wk_KeptInts_5_ce]
def wk_KeptConfig_2 (x0 : (Nat × Nat × Nat) × (Nat × Nat × Nat) × (Nat × Nat × Nat) × (Nat × Nat × Nat) × Unit) (x1 : DConfig) (h0 : LI) (h1 : LI) (h2 : LI) (h3 : LI) : Option (Bool × (LI × LI × LI × LI × Unit)) :=
  (wk_SameConfig_5 ((x0.1.1, x0.1.2.1, x0.1.2.2), (x0.2.1.1, x0.2.1.2.1, x0.2.1.2.2), (x0.2.2.1.1, x0.2.2.1.2.1, x0.2.2.1.2.2), (x0.2.2.2.1.1, x0.2.2.2.1.2.1, x0.2.2.2.1.2.2), ()) x1 h0 h1 h2 h3).bind fun r1 =>
  (bif r1.1 then
  (wk_KeptInts_5 (x0.1.1, x0.1.2.1, x0.1.2.2) x1.voters r1.2.1).bind fun r2 =>
  (bif r2.1 then
  (wk_KeptInts_5 (x0.2.1.1, x0.2.1.2.1, x0.2.1.2.2) x1.old r1.2.2.1).bind fun r3 =>
  (bif r3.1 then
  (wk_KeptInts_5 (x0.2.2.1.1, x0.2.2.1.2.1, x0.2.2.1.2.2) x1.learners r1.2.2.2.1).bind fun r4 =>
  (bif r4.1 then
  (wk_KeptInts_5 (x0.2.2.2.1.1, x0.2.2.2.1.2.1, x0.2.2.2.1.2.2) x1.want r1.2.2.2.2.1).bind fun r5 =>
  some (r5.1, (r2.2.1, r3.2.1, r4.2.1, r5.2.1, ()))
  else
  some (false, (r2.2.1, r3.2.1, r4.2.1, r1.2.2.2.2.1, ())))
  else
  some (false, (r2.2.1, r3.2.1, r1.2.2.2.1, r1.2.2.2.2.1, ())))
  else
  some (false, (r2.2.1, r1.2.2.1, r1.2.2.2.1, r1.2.2.2.2.1, ())))
  else
  some (false, (r1.2.1, r1.2.2.1, r1.2.2.2.1, r1.2.2.2.2.1, ())))
def wk_KeptConfig_2_ce : CEp where
  f := 63
  args := [.agg [.as 0 0, .as 0 1, .as 0 2, .as 0 3], .cod 13]
  hs := [.arr 3 0 true, .arr 3 0 true, .arr 3 0 true, .arr 3 0 true]
  res := .val (.one (.bool))
  outs := [.arr 3 0 true, .arr 3 0 true, .arr 3 0 true, .arr 3 0 true]
  m := fun d dh => wk_KeptConfig_2 d.1 d.2.1 dh.1 dh.2.1 dh.2.2.1 dh.2.2.2.1
  ok := ceO Try.func63 (by kernel_rfl) wk_KeptConfig_2_tb (by kernel_rfl) fun d dh => by kernel_rfl

def wk_KeptBase_tb : List (CEp) := [wk_SameBase_3_ce, wk_KeptConfig_2_ce]
def wk_KeptBase (x0 : Int × Int × (Nat × Nat × Nat) × (Nat × Nat × Nat) × (Nat × Nat × Nat) × (Nat × Nat × Nat) × Unit) (x1 : DBase) (h0 : LI) (h1 : LI) (h2 : LI) (h3 : LI) : Option (Bool × (LI × LI × LI × LI × Unit)) :=
  (wk_SameBase_3 (x0.1, x0.2.1, (x0.2.2.1.1, x0.2.2.1.2.1, x0.2.2.1.2.2), (x0.2.2.2.1.1, x0.2.2.2.1.2.1, x0.2.2.2.1.2.2), (x0.2.2.2.2.1.1, x0.2.2.2.2.1.2.1, x0.2.2.2.2.1.2.2), (x0.2.2.2.2.2.1.1, x0.2.2.2.2.2.1.2.1, x0.2.2.2.2.2.1.2.2), ()) x1 h0 h1 h2 h3).bind fun r1 =>
  (bif r1.1 then
  (wk_KeptConfig_2 ((x0.2.2.1.1, x0.2.2.1.2.1, x0.2.2.1.2.2), (x0.2.2.2.1.1, x0.2.2.2.1.2.1, x0.2.2.2.1.2.2), (x0.2.2.2.2.1.1, x0.2.2.2.2.1.2.1, x0.2.2.2.2.1.2.2), (x0.2.2.2.2.2.1.1, x0.2.2.2.2.2.1.2.1, x0.2.2.2.2.2.1.2.2), ()) x1.config r1.2.1 r1.2.2.1 r1.2.2.2.1 r1.2.2.2.2.1).bind fun r2 =>
  some (r2.1, (r2.2.1, r2.2.2.1, r2.2.2.2.1, r2.2.2.2.2.1, ()))
  else
  some (false, (r1.2.1, r1.2.2.1, r1.2.2.2.1, r1.2.2.2.2.1, ())))
def wk_KeptBase_ce : CEp where
  f := 44
  args := [.agg [.int .i64, .int .i64, .as 0 0, .as 0 1, .as 0 2, .as 0 3], .cod 14]
  hs := [.arr 3 0 true, .arr 3 0 true, .arr 3 0 true, .arr 3 0 true]
  res := .val (.one (.bool))
  outs := [.arr 3 0 true, .arr 3 0 true, .arr 3 0 true, .arr 3 0 true]
  m := fun d dh => wk_KeptBase d.1 d.2.1 dh.1 dh.2.1 dh.2.2.1 dh.2.2.2.1
  ok := ceO Try.func44 (by kernel_rfl) wk_KeptBase_tb (by kernel_rfl) fun d dh => by kernel_rfl

def wk_KeptBytes_2_dr : Nat → Nat → DrA
  | 7, _ => ⟨(List.range 8 ++ [9, 10, 11, 8, 12, 13, 14, 15, 16, 17, 18, 19, 20, 21, 22, 23, 24, 26, 27, 28, 29, 25, 30, 31, 32, 33, 34]), [[], [], [1], [0, 1, 2], [0, 1, 2, 3], (List.range 5), (List.range 5), (List.range 7), (List.range 8), (List.range 5), (List.range 5), (List.range 5 ++ [9, 10]), (List.range 5 ++ [9, 10, 11]), (List.range 13), (List.range 14), (List.range 15), (List.range 16), (List.range 17), (List.range 17), (List.range 17 ++ [18]), (List.range 20), (List.range 21), (List.range 22), (List.range 22), (List.range 24), (List.range 25), (List.range 22), (List.range 22), (List.range 22 ++ [27]), (List.range 22 ++ [26, 27, 28]), (List.range 22 ++ [26, 27, 28, 29]), (List.range 31), (List.range 32), (List.range 33), (List.range 34)], [25], [30], [0], false, []⟩
  | _, _ => ⟨[], [], [], [], [], false, []⟩
def wk_KeptBytes_2_tb : List (CEp) := [wk_markByte_ce]
def wk_KeptBytes_2_l1 (a : (LB × (Nat × Nat × Nat) × Int × Unit) × (LB × Unit)) : Option (((LB × (Nat × Nat × Nat) × Int × Unit) × (LB × Unit)) ⊕ (((Bool × Unit) × (LB × Unit)) ⊕ (Unit × (LB × Unit)))) :=
  (bif (decide ((a.1.2.2.1 : Int) < ((a.1.2.1.2.1 : Nat) : Int))) then
  (bif (decide ((a.1.2.2.1 : Int) < (a.1.1.length : Int))) then
  (if 0 ≤ (a.1.2.2.1 : Int) ∧ (a.1.2.2.1 : Int) < ((a.1.2.1.2.1 : Nat) : Int) then
  (getI a.1.1 a.1.2.2.1).bind fun e1 =>
  (a.2.1[(a.1.2.1.1 + (a.1.2.2.1 : Int).toNat)]?).bind fun e2 =>
  (bif (!(decide (((e2.toNat : Int) : Int) = (e1.toNat : Int)))) then
  some (.inr (.inl ((false, ()), (a.2.1, ()))))
  else
  (bif (decide (((a.1.1.length : Int) : Int) ≤ a.1.2.2.1)) then
  (if 0 ≤ (a.1.2.2.1 : Int) ∧ (a.1.2.2.1 : Int) < ((a.1.2.1.2.1 : Nat) : Int) then
  (a.2.1[(a.1.2.1.1 + (a.1.2.2.1 : Int).toNat)]?).bind fun e3 =>
  (wk_markByte 1 (IntKind.i64.wrap (a.1.2.2.1 - (a.1.1.length : Int)))).bind fun r4 =>
  (bif (!(decide (((e3.toNat : Int) : Int) = r4.1))) then
  some (.inr (.inl ((false, ()), (a.2.1, ()))))
  else
  some (.inl ((a.1.1, (a.1.2.1.1, a.1.2.1.2.1, a.1.2.1.2.2), (IntKind.i64.wrap (a.1.2.2.1 + 1)), ()), (a.2.1, ()))))
  else none)
  else
  some (.inl ((a.1.1, (a.1.2.1.1, a.1.2.1.2.1, a.1.2.1.2.2), (IntKind.i64.wrap (a.1.2.2.1 + 1)), ()), (a.2.1, ())))))
  else none)
  else
  (bif (decide (((a.1.1.length : Int) : Int) ≤ a.1.2.2.1)) then
  (if 0 ≤ (a.1.2.2.1 : Int) ∧ (a.1.2.2.1 : Int) < ((a.1.2.1.2.1 : Nat) : Int) then
  (a.2.1[(a.1.2.1.1 + (a.1.2.2.1 : Int).toNat)]?).bind fun e5 =>
  (wk_markByte 1 (IntKind.i64.wrap (a.1.2.2.1 - (a.1.1.length : Int)))).bind fun r6 =>
  (bif (!(decide (((e5.toNat : Int) : Int) = r6.1))) then
  some (.inr (.inl ((false, ()), (a.2.1, ()))))
  else
  some (.inl ((a.1.1, (a.1.2.1.1, a.1.2.1.2.1, a.1.2.1.2.2), (IntKind.i64.wrap (a.1.2.2.1 + 1)), ()), (a.2.1, ()))))
  else none)
  else
  some (.inl ((a.1.1, (a.1.2.1.1, a.1.2.1.2.1, a.1.2.1.2.2), (IntKind.i64.wrap (a.1.2.2.1 + 1)), ()), (a.2.1, ())))))
  else
  some (.inr (.inr ((), (a.2.1, ())))))
def wk_KeptBytes_2_e1 : LEp := ⟨5, [1, 5, 6], [.one (.sl 1), .one (.as 1 0), .one (.int .i64)], [.arr 5 1 true], [⟨.ret, [4], [.one (.bool)], [.arr 5 1 true]⟩, ⟨.exit 0, [], [], [.arr 5 1 true]⟩], wk_KeptBytes_2_l1⟩
def wk_KeptBytes_2_lt : List (LEp) := [wk_KeptBytes_2_e1]
theorem wk_KeptBytes_2_e1_ok : LeOk wk_KeptBytes_2_e1 (nthL (bodyOf Try.f45) 0) := fun A env h k z hk => le_ok (E := wk_KeptBytes_2_e1) (orcOf_ok wk_KeptBytes_2_tb) (dr := wk_KeptBytes_2_dr) (lps := lpsOf wk_KeptBytes_2_lt) (no_loop (by kernel_rfl)) (fun a => by kernel_rfl) env h k z hk
def wk_KeptBytes_2 (x0 : Nat × Nat × Nat) (x1 : LB) (h0 : LB) : Option (Bool × (LB × Unit)) :=
  (bif (decide ((((x0.2.1 : Nat) : Int) : Int) ≠ (x1.length : Int))) then
  some (false, (h0, ()))
  else
  (if 0 ≤ ((0 : Int) : Int) ∧ ((0 : Int) : Int) ≤ ((IntKind.i64.wrap ((x1.length : Int) + 12)) : Int) ∧ ((IntKind.i64.wrap ((x1.length : Int) + 12)) : Int) ≤ ((x0.2.2 : Nat) : Int) ∧ ((IntKind.i64.wrap ((x1.length : Int) + 12)) : Int) ≤ 140737488355328 then
  (loopM wk_KeptBytes_2_l1 ((x1, ((x0.1 + (0 : Int).toNat), (((IntKind.i64.wrap ((x1.length : Int) + 12)) : Int).toNat - (0 : Int).toNat), (x0.2.2 - (0 : Int).toNat)), 0, ()), (h0, ()))).bind fun b1 =>
  (match b1 with
  | .inl b2 =>
  some (b2.1.1, (b2.2.1, ()))
  | .inr b3 =>
  some (true, (b3.2.1, ())))
  else none))
def wk_KeptBytes_2_ce : CEp where
  f := 45
  args := [.one (.as 1 0), .one (.sl 1)]
  hs := [.arr 5 1 true]
  res := .val (.one (.bool))
  outs := [.arr 5 1 true]
  m := fun d dh => wk_KeptBytes_2 d.1 d.2.1 dh.1
  ok := ce_ok mixedP Try.func45 (by kernel_rfl) (orcOf_ok wk_KeptBytes_2_tb) (dr := wk_KeptBytes_2_dr) (lps := lpsOf wk_KeptBytes_2_lt) (lps_fn (lps_of (n := 1) (by kernel_rfl) fun i hi => match i, hi with | 0, _ => lp_ok (E := wk_KeptBytes_2_e1) (by kernel_rfl) wk_KeptBytes_2_e1_ok)) (fun d dh => by kernel_rfl)

def wk_KeptLetter_tb : List (CEp) := [wk_SameLetter_2_ce, wk_KeptEntries_ce, wk_KeptBase_ce, wk_KeptBytes_2_ce]
def wk_KeptLetter (x0 : Int × Int × Int × Int × Int × Int × Int × Int × Bool × (Nat × Nat × Nat × Unit) × Int × Int × (Nat × Nat × Nat) × (Nat × Nat × Nat) × (Nat × Nat × Nat) × (Nat × Nat × Nat) × Int × Int × Int × (Nat × Nat × Nat) × Unit) (x1 : DLetter) (h0 : List (DEntryX)) (h1 : LI) (h2 : LI) (h3 : LI) (h4 : LI) (h5 : LB) : Option (Bool × ((List (DEntryX)) × LI × LI × LI × LI × LB × Unit)) :=
  (wk_SameLetter_2 (x0.1, x0.2.1, x0.2.2.1, x0.2.2.2.1, x0.2.2.2.2.1, x0.2.2.2.2.2.1, x0.2.2.2.2.2.2.1, x0.2.2.2.2.2.2.2.1, x0.2.2.2.2.2.2.2.2.1, (x0.2.2.2.2.2.2.2.2.2.1.1, x0.2.2.2.2.2.2.2.2.2.1.2.1, x0.2.2.2.2.2.2.2.2.2.1.2.2.1, ()), x0.2.2.2.2.2.2.2.2.2.2.1, x0.2.2.2.2.2.2.2.2.2.2.2.1, (x0.2.2.2.2.2.2.2.2.2.2.2.2.1.1, x0.2.2.2.2.2.2.2.2.2.2.2.2.1.2.1, x0.2.2.2.2.2.2.2.2.2.2.2.2.1.2.2), (x0.2.2.2.2.2.2.2.2.2.2.2.2.2.1.1, x0.2.2.2.2.2.2.2.2.2.2.2.2.2.1.2.1, x0.2.2.2.2.2.2.2.2.2.2.2.2.2.1.2.2), (x0.2.2.2.2.2.2.2.2.2.2.2.2.2.2.1.1, x0.2.2.2.2.2.2.2.2.2.2.2.2.2.2.1.2.1, x0.2.2.2.2.2.2.2.2.2.2.2.2.2.2.1.2.2), (x0.2.2.2.2.2.2.2.2.2.2.2.2.2.2.2.1.1, x0.2.2.2.2.2.2.2.2.2.2.2.2.2.2.2.1.2.1, x0.2.2.2.2.2.2.2.2.2.2.2.2.2.2.2.1.2.2), x0.2.2.2.2.2.2.2.2.2.2.2.2.2.2.2.2.1, x0.2.2.2.2.2.2.2.2.2.2.2.2.2.2.2.2.2.1, x0.2.2.2.2.2.2.2.2.2.2.2.2.2.2.2.2.2.2.1, (x0.2.2.2.2.2.2.2.2.2.2.2.2.2.2.2.2.2.2.2.1.1, x0.2.2.2.2.2.2.2.2.2.2.2.2.2.2.2.2.2.2.2.1.2.1, x0.2.2.2.2.2.2.2.2.2.2.2.2.2.2.2.2.2.2.2.1.2.2), ()) x1 h0 h1 h2 h3 h4 h5).bind fun r1 =>
  (bif r1.1 then
  (wk_KeptEntries (x0.2.2.2.2.2.2.2.2.2.1.1, x0.2.2.2.2.2.2.2.2.2.1.2.1, x0.2.2.2.2.2.2.2.2.2.1.2.2.1, ()) x1.entries r1.2.1).bind fun r2 =>
  (bif r2.1 then
  (wk_KeptBase (x0.2.2.2.2.2.2.2.2.2.2.1, x0.2.2.2.2.2.2.2.2.2.2.2.1, (x0.2.2.2.2.2.2.2.2.2.2.2.2.1.1, x0.2.2.2.2.2.2.2.2.2.2.2.2.1.2.1, x0.2.2.2.2.2.2.2.2.2.2.2.2.1.2.2), (x0.2.2.2.2.2.2.2.2.2.2.2.2.2.1.1, x0.2.2.2.2.2.2.2.2.2.2.2.2.2.1.2.1, x0.2.2.2.2.2.2.2.2.2.2.2.2.2.1.2.2), (x0.2.2.2.2.2.2.2.2.2.2.2.2.2.2.1.1, x0.2.2.2.2.2.2.2.2.2.2.2.2.2.2.1.2.1, x0.2.2.2.2.2.2.2.2.2.2.2.2.2.2.1.2.2), (x0.2.2.2.2.2.2.2.2.2.2.2.2.2.2.2.1.1, x0.2.2.2.2.2.2.2.2.2.2.2.2.2.2.2.1.2.1, x0.2.2.2.2.2.2.2.2.2.2.2.2.2.2.2.1.2.2), ()) x1.base r1.2.2.1 r1.2.2.2.1 r1.2.2.2.2.1 r1.2.2.2.2.2.1).bind fun r3 =>
  (bif r3.1 then
  (wk_KeptBytes_2 (x0.2.2.2.2.2.2.2.2.2.2.2.2.2.2.2.2.2.2.2.1.1, x0.2.2.2.2.2.2.2.2.2.2.2.2.2.2.2.2.2.2.2.1.2.1, x0.2.2.2.2.2.2.2.2.2.2.2.2.2.2.2.2.2.2.2.1.2.2) x1.bytes r1.2.2.2.2.2.2.1).bind fun r4 =>
  some (r4.1, (r2.2.1, r3.2.1, r3.2.2.1, r3.2.2.2.1, r3.2.2.2.2.1, r4.2.1, ()))
  else
  some (false, (r2.2.1, r3.2.1, r3.2.2.1, r3.2.2.2.1, r3.2.2.2.2.1, r1.2.2.2.2.2.2.1, ())))
  else
  some (false, (r2.2.1, r1.2.2.1, r1.2.2.2.1, r1.2.2.2.2.1, r1.2.2.2.2.2.1, r1.2.2.2.2.2.2.1, ())))
  else
  some (false, (r1.2.1, r1.2.2.1, r1.2.2.2.1, r1.2.2.2.2.1, r1.2.2.2.2.2.1, r1.2.2.2.2.2.2.1, ())))
def wk_KeptLetter_ce : CEp where
  f := 16
  args := [.agg [.int .u8, .int .i64, .int .i64, .int .i64, .int .i64, .int .i64, .int .i64, .int .i64, .bool, .gv 0 28 3, .int .i64, .int .i64, .as 0 1, .as 0 2, .as 0 3, .as 0 4, .int .i64, .int .i64, .int .i64, .as 1 5], .cod 20]
  hs := [.gen 8 true, .arr 3 0 true, .arr 3 0 true, .arr 3 0 true, .arr 3 0 true, .arr 5 1 true]
  res := .val (.one (.bool))
  outs := [.gen 8 true, .arr 3 0 true, .arr 3 0 true, .arr 3 0 true, .arr 3 0 true, .arr 5 1 true]
  m := fun d dh => wk_KeptLetter d.1 d.2.1 dh.1 dh.2.1 dh.2.2.1 dh.2.2.2.1 dh.2.2.2.2.1 dh.2.2.2.2.2.1
  ok := ceO Try.func16 (by kernel_rfl) wk_KeptLetter_tb (by kernel_rfl) fun d dh => by kernel_rfl

def wk_SameImage_2_tb : List (CEp) := [wk_SameBase_3_ce, wk_SameBytes_5_ce]
def wk_SameImage_2 (x0 : Int × Int × (Nat × Nat × Nat) × (Nat × Nat × Nat) × (Nat × Nat × Nat) × (Nat × Nat × Nat) × (Nat × Nat × Nat) × Unit) (x1 : DImage) (h0 : LI) (h1 : LI) (h2 : LI) (h3 : LI) (h4 : LB) : Option (Bool × (LI × LI × LI × LI × LB × Unit)) :=
  (wk_SameBase_3 (x0.1, x0.2.1, (x0.2.2.1.1, x0.2.2.1.2.1, x0.2.2.1.2.2), (x0.2.2.2.1.1, x0.2.2.2.1.2.1, x0.2.2.2.1.2.2), (x0.2.2.2.2.1.1, x0.2.2.2.2.1.2.1, x0.2.2.2.2.1.2.2), (x0.2.2.2.2.2.1.1, x0.2.2.2.2.2.1.2.1, x0.2.2.2.2.2.1.2.2), ()) x1.base h0 h1 h2 h3).bind fun r1 =>
  (bif r1.1 then
  (wk_SameBytes_5 (x0.2.2.2.2.2.2.1.1, x0.2.2.2.2.2.2.1.2.1, x0.2.2.2.2.2.2.1.2.2) x1.bytes h4).bind fun r2 =>
  some (r2.1, (r1.2.1, r1.2.2.1, r1.2.2.2.1, r1.2.2.2.2.1, r2.2.1, ()))
  else
  some (false, (r1.2.1, r1.2.2.1, r1.2.2.2.1, r1.2.2.2.2.1, h4, ())))
def wk_SameImage_2_ce : CEp where
  f := 24
  args := [.agg [.int .i64, .int .i64, .as 0 0, .as 0 1, .as 0 2, .as 0 3, .as 1 4], .cod 16]
  hs := [.arr 3 0 true, .arr 3 0 true, .arr 3 0 true, .arr 3 0 true, .arr 5 1 true]
  res := .val (.one (.bool))
  outs := [.arr 3 0 true, .arr 3 0 true, .arr 3 0 true, .arr 3 0 true, .arr 5 1 true]
  m := fun d dh => wk_SameImage_2 d.1 d.2.1 dh.1 dh.2.1 dh.2.2.1 dh.2.2.2.1 dh.2.2.2.2.1
  ok := ceO Try.func24 (by kernel_rfl) wk_SameImage_2_tb (by kernel_rfl) fun d dh => by kernel_rfl

def wk_KeptImage_tb : List (CEp) := [wk_SameImage_2_ce, wk_KeptBase_ce, wk_KeptBytes_2_ce]
def wk_KeptImage (x0 : Int × Int × (Nat × Nat × Nat) × (Nat × Nat × Nat) × (Nat × Nat × Nat) × (Nat × Nat × Nat) × (Nat × Nat × Nat) × Unit) (x1 : DImage) (h0 : LI) (h1 : LI) (h2 : LI) (h3 : LI) (h4 : LB) : Option (Bool × (LI × LI × LI × LI × LB × Unit)) :=
  (wk_SameImage_2 (x0.1, x0.2.1, (x0.2.2.1.1, x0.2.2.1.2.1, x0.2.2.1.2.2), (x0.2.2.2.1.1, x0.2.2.2.1.2.1, x0.2.2.2.1.2.2), (x0.2.2.2.2.1.1, x0.2.2.2.2.1.2.1, x0.2.2.2.2.1.2.2), (x0.2.2.2.2.2.1.1, x0.2.2.2.2.2.1.2.1, x0.2.2.2.2.2.1.2.2), (x0.2.2.2.2.2.2.1.1, x0.2.2.2.2.2.2.1.2.1, x0.2.2.2.2.2.2.1.2.2), ()) x1 h0 h1 h2 h3 h4).bind fun r1 =>
  (bif r1.1 then
  (wk_KeptBase (x0.1, x0.2.1, (x0.2.2.1.1, x0.2.2.1.2.1, x0.2.2.1.2.2), (x0.2.2.2.1.1, x0.2.2.2.1.2.1, x0.2.2.2.1.2.2), (x0.2.2.2.2.1.1, x0.2.2.2.2.1.2.1, x0.2.2.2.2.1.2.2), (x0.2.2.2.2.2.1.1, x0.2.2.2.2.2.1.2.1, x0.2.2.2.2.2.1.2.2), ()) x1.base r1.2.1 r1.2.2.1 r1.2.2.2.1 r1.2.2.2.2.1).bind fun r2 =>
  (bif r2.1 then
  (wk_KeptBytes_2 (x0.2.2.2.2.2.2.1.1, x0.2.2.2.2.2.2.1.2.1, x0.2.2.2.2.2.2.1.2.2) x1.bytes r1.2.2.2.2.2.1).bind fun r3 =>
  some (r3.1, (r2.2.1, r2.2.2.1, r2.2.2.2.1, r2.2.2.2.2.1, r3.2.1, ()))
  else
  some (false, (r2.2.1, r2.2.2.1, r2.2.2.2.1, r2.2.2.2.2.1, r1.2.2.2.2.2.1, ())))
  else
  some (false, (r1.2.1, r1.2.2.1, r1.2.2.2.1, r1.2.2.2.2.1, r1.2.2.2.2.2.1, ())))
def wk_KeptImage_ce : CEp where
  f := 17
  args := [.agg [.int .i64, .int .i64, .as 0 0, .as 0 1, .as 0 2, .as 0 3, .as 1 4], .cod 16]
  hs := [.arr 3 0 true, .arr 3 0 true, .arr 3 0 true, .arr 3 0 true, .arr 5 1 true]
  res := .val (.one (.bool))
  outs := [.arr 3 0 true, .arr 3 0 true, .arr 3 0 true, .arr 3 0 true, .arr 5 1 true]
  m := fun d dh => wk_KeptImage d.1 d.2.1 dh.1 dh.2.1 dh.2.2.1 dh.2.2.2.1 dh.2.2.2.2.1
  ok := ceO Try.func17 (by kernel_rfl) wk_KeptImage_tb (by kernel_rfl) fun d dh => by kernel_rfl

def wl_FerryTells_dr : Nat → Nat → DrA
  | 5, _ => ⟨[0, 2, 1, 3, 4, 5, 6, 7], [[], [0], [], [0, 1, 2], [], [], (List.range 6), (List.range 7)], [2], [1], [1], false, []⟩
  | _, _ => ⟨[], [], [], [], [], false, []⟩
def wl_FerryTells_tb : List (CEp) := [wl_awake_ce, wl_great_ce, wk_ConfigOf_ce, wk_LentLetter_ce, wk_LentImage_ce, ferry_Fill_2_ce, w13_Fill_ce, wk_SameLetter_ce, wk_OverLetter_ce, wk_KeptLetter_ce, wk_KeptImage_ce]
def wl_FerryTells (x0 : DLetter) (x1 : DImage) : Option (Bool × Unit) :=
  (wl_awake).bind fun r1 =>
  (bif (!r1.1) then
  some (false, ())
  else
  (wl_great ([x0] : List (DLetter))).bind fun r2 =>
  (bif r2.1 then
  some (true, ())
  else
  (bif (decide ((6000 : Int) < (x1.bytes.length : Int))) then
  some (true, ())
  else
  (wk_ConfigOf x1.base.config).bind fun r3 =>
  (bif (decide ((100 : Int) < r3.1)) then
  some (true, ())
  else
  (wk_LentLetter x0).bind fun r4 =>
  (wk_LentImage x1).bind fun r5 =>
  (ferry_Fill_2 (r4.1.1, r4.1.2.1, r4.1.2.2.1, r4.1.2.2.2.1, r4.1.2.2.2.2.1, r4.1.2.2.2.2.2.1, r4.1.2.2.2.2.2.2.1, r4.1.2.2.2.2.2.2.2.1, r4.1.2.2.2.2.2.2.2.2.1, (r4.1.2.2.2.2.2.2.2.2.2.1.1, r4.1.2.2.2.2.2.2.2.2.2.1.2.1, r4.1.2.2.2.2.2.2.2.2.2.1.2.2.1, ()), r4.1.2.2.2.2.2.2.2.2.2.2.1, r4.1.2.2.2.2.2.2.2.2.2.2.2.1, (r4.1.2.2.2.2.2.2.2.2.2.2.2.2.1.1, r4.1.2.2.2.2.2.2.2.2.2.2.2.2.1.2.1, r4.1.2.2.2.2.2.2.2.2.2.2.2.2.1.2.2), (r4.1.2.2.2.2.2.2.2.2.2.2.2.2.2.1.1, r4.1.2.2.2.2.2.2.2.2.2.2.2.2.2.1.2.1, r4.1.2.2.2.2.2.2.2.2.2.2.2.2.2.1.2.2), (r4.1.2.2.2.2.2.2.2.2.2.2.2.2.2.2.1.1, r4.1.2.2.2.2.2.2.2.2.2.2.2.2.2.2.1.2.1, r4.1.2.2.2.2.2.2.2.2.2.2.2.2.2.2.1.2.2), (r4.1.2.2.2.2.2.2.2.2.2.2.2.2.2.2.2.1.1, r4.1.2.2.2.2.2.2.2.2.2.2.2.2.2.2.2.1.2.1, r4.1.2.2.2.2.2.2.2.2.2.2.2.2.2.2.2.1.2.2), r4.1.2.2.2.2.2.2.2.2.2.2.2.2.2.2.2.2.1, r4.1.2.2.2.2.2.2.2.2.2.2.2.2.2.2.2.2.2.1, r4.1.2.2.2.2.2.2.2.2.2.2.2.2.2.2.2.2.2.2.1, (r4.1.2.2.2.2.2.2.2.2.2.2.2.2.2.2.2.2.2.2.2.1.1, r4.1.2.2.2.2.2.2.2.2.2.2.2.2.2.2.2.2.2.2.2.1.2.1, r4.1.2.2.2.2.2.2.2.2.2.2.2.2.2.2.2.2.2.2.2.1.2.2), ()) (r5.1.1, r5.1.2.1, (r5.1.2.2.1.1, r5.1.2.2.1.2.1, r5.1.2.2.1.2.2), (r5.1.2.2.2.1.1, r5.1.2.2.2.1.2.1, r5.1.2.2.2.1.2.2), (r5.1.2.2.2.2.1.1, r5.1.2.2.2.2.1.2.1, r5.1.2.2.2.2.1.2.2), (r5.1.2.2.2.2.2.1.1, r5.1.2.2.2.2.2.1.2.1, r5.1.2.2.2.2.2.1.2.2), (r5.1.2.2.2.2.2.2.1.1, r5.1.2.2.2.2.2.2.1.2.1, r5.1.2.2.2.2.2.2.1.2.2), ()) r4.2.1 r4.2.2.1 r4.2.2.2.1 r4.2.2.2.2.1 r4.2.2.2.2.2.1 r4.2.2.2.2.2.2.1 r5.2.1 r5.2.2.1 r5.2.2.2.1 r5.2.2.2.2.1 r5.2.2.2.2.2.1).bind fun r6 =>
  (w13_Fill x0 x1).bind fun r7 =>
  (bif (decide (r6.1.2.1 ≠ r7.1.2.1)) then
  some (false, ())
  else
  (wk_SameLetter (r6.1.1.1, r6.1.1.2.1, r6.1.1.2.2.1, r6.1.1.2.2.2.1, r6.1.1.2.2.2.2.1, r6.1.1.2.2.2.2.2.1, r6.1.1.2.2.2.2.2.2.1, r6.1.1.2.2.2.2.2.2.2.1, r6.1.1.2.2.2.2.2.2.2.2.1, (), r6.1.1.2.2.2.2.2.2.2.2.2.2.1, r6.1.1.2.2.2.2.2.2.2.2.2.2.2.1, r6.1.1.2.2.2.2.2.2.2.2.2.2.2.2.1, r6.1.1.2.2.2.2.2.2.2.2.2.2.2.2.2.1, r6.1.1.2.2.2.2.2.2.2.2.2.2.2.2.2.2.1, r6.1.1.2.2.2.2.2.2.2.2.2.2.2.2.2.2.2.1, r6.1.1.2.2.2.2.2.2.2.2.2.2.2.2.2.2.2.2.1, r6.1.1.2.2.2.2.2.2.2.2.2.2.2.2.2.2.2.2.2.1, r6.1.1.2.2.2.2.2.2.2.2.2.2.2.2.2.2.2.2.2.2.1, r6.1.1.2.2.2.2.2.2.2.2.2.2.2.2.2.2.2.2.2.2.2.1, ()) r7.1.1 r6.2.2.2.2.2.2.2.2.2.2.2.2.1 r6.2.2.2.2.2.2.2.2.2.2.2.2.2.1 r6.2.2.2.2.2.2.2.2.2.2.2.2.2.2.1 r6.2.2.2.2.2.2.2.2.2.2.2.2.2.2.2.1 r6.2.2.2.2.2.2.2.2.2.2.2.2.2.2.2.2.1).bind fun r8 =>
  (bif (!r8.1) then
  some (false, ())
  else
  (wk_OverLetter (r6.1.1.1, r6.1.1.2.1, r6.1.1.2.2.1, r6.1.1.2.2.2.1, r6.1.1.2.2.2.2.1, r6.1.1.2.2.2.2.2.1, r6.1.1.2.2.2.2.2.2.1, r6.1.1.2.2.2.2.2.2.2.1, r6.1.1.2.2.2.2.2.2.2.2.1, (), r6.1.1.2.2.2.2.2.2.2.2.2.2.1, r6.1.1.2.2.2.2.2.2.2.2.2.2.2.1, r6.1.1.2.2.2.2.2.2.2.2.2.2.2.2.1, r6.1.1.2.2.2.2.2.2.2.2.2.2.2.2.2.1, r6.1.1.2.2.2.2.2.2.2.2.2.2.2.2.2.2.1, r6.1.1.2.2.2.2.2.2.2.2.2.2.2.2.2.2.2.1, r6.1.1.2.2.2.2.2.2.2.2.2.2.2.2.2.2.2.2.1, r6.1.1.2.2.2.2.2.2.2.2.2.2.2.2.2.2.2.2.2.1, r6.1.1.2.2.2.2.2.2.2.2.2.2.2.2.2.2.2.2.2.2.1, r6.1.1.2.2.2.2.2.2.2.2.2.2.2.2.2.2.2.2.2.2.2.1, ()) r8.2.1 r8.2.2.1 r8.2.2.2.1 r8.2.2.2.2.1 r8.2.2.2.2.2.1).bind fun r9 =>
  (wk_KeptLetter (r4.1.1, r4.1.2.1, r4.1.2.2.1, r4.1.2.2.2.1, r4.1.2.2.2.2.1, r4.1.2.2.2.2.2.1, r4.1.2.2.2.2.2.2.1, r4.1.2.2.2.2.2.2.2.1, r4.1.2.2.2.2.2.2.2.2.1, (r4.1.2.2.2.2.2.2.2.2.2.1.1, r4.1.2.2.2.2.2.2.2.2.2.1.2.1, r4.1.2.2.2.2.2.2.2.2.2.1.2.2.1, ()), r4.1.2.2.2.2.2.2.2.2.2.2.1, r4.1.2.2.2.2.2.2.2.2.2.2.2.1, (r4.1.2.2.2.2.2.2.2.2.2.2.2.2.1.1, r4.1.2.2.2.2.2.2.2.2.2.2.2.2.1.2.1, r4.1.2.2.2.2.2.2.2.2.2.2.2.2.1.2.2), (r4.1.2.2.2.2.2.2.2.2.2.2.2.2.2.1.1, r4.1.2.2.2.2.2.2.2.2.2.2.2.2.2.1.2.1, r4.1.2.2.2.2.2.2.2.2.2.2.2.2.2.1.2.2), (r4.1.2.2.2.2.2.2.2.2.2.2.2.2.2.2.1.1, r4.1.2.2.2.2.2.2.2.2.2.2.2.2.2.2.1.2.1, r4.1.2.2.2.2.2.2.2.2.2.2.2.2.2.2.1.2.2), (r4.1.2.2.2.2.2.2.2.2.2.2.2.2.2.2.2.1.1, r4.1.2.2.2.2.2.2.2.2.2.2.2.2.2.2.2.1.2.1, r4.1.2.2.2.2.2.2.2.2.2.2.2.2.2.2.2.1.2.2), r4.1.2.2.2.2.2.2.2.2.2.2.2.2.2.2.2.2.1, r4.1.2.2.2.2.2.2.2.2.2.2.2.2.2.2.2.2.2.1, r4.1.2.2.2.2.2.2.2.2.2.2.2.2.2.2.2.2.2.2.1, (r4.1.2.2.2.2.2.2.2.2.2.2.2.2.2.2.2.2.2.2.2.1.1, r4.1.2.2.2.2.2.2.2.2.2.2.2.2.2.2.2.2.2.2.2.1.2.1, r4.1.2.2.2.2.2.2.2.2.2.2.2.2.2.2.2.2.2.2.2.1.2.2), ()) x0 r6.2.1 r6.2.2.1 r6.2.2.2.1 r6.2.2.2.2.1 r6.2.2.2.2.2.1 r6.2.2.2.2.2.2.1).bind fun r10 =>
  (bif r10.1 then
  (wk_KeptImage (r5.1.1, r5.1.2.1, (r5.1.2.2.1.1, r5.1.2.2.1.2.1, r5.1.2.2.1.2.2), (r5.1.2.2.2.1.1, r5.1.2.2.2.1.2.1, r5.1.2.2.2.1.2.2), (r5.1.2.2.2.2.1.1, r5.1.2.2.2.2.1.2.1, r5.1.2.2.2.2.1.2.2), (r5.1.2.2.2.2.2.1.1, r5.1.2.2.2.2.2.1.2.1, r5.1.2.2.2.2.2.1.2.2), (r5.1.2.2.2.2.2.2.1.1, r5.1.2.2.2.2.2.2.1.2.1, r5.1.2.2.2.2.2.2.1.2.2), ()) x1 r6.2.2.2.2.2.2.2.1 r6.2.2.2.2.2.2.2.2.1 r6.2.2.2.2.2.2.2.2.2.1 r6.2.2.2.2.2.2.2.2.2.2.1 r6.2.2.2.2.2.2.2.2.2.2.2.1).bind fun r11 =>
  some (r11.1, ())
  else
  some (false, ()))))))))
def wl_FerryTells_ce : CEp where
  f := 3
  args := [.cod 20, .cod 16]
  hs := []
  res := .val (.one (.bool))
  outs := []
  m := fun d dh => wl_FerryTells d.1 d.2.1
  ok := ce_ok mixedP Try.func3 (by kernel_rfl) (orcOf_ok wl_FerryTells_tb) (dr := wl_FerryTells_dr) (lps := lpsOf lt0) (lps_fn (no_loop (by kernel_rfl))) (fun d dh => by kernel_rfl)

def clone54 (x : LI) : Option (LI × (Unit × Unit)) :=
  if x.length ≤ 140737488355328 ∧ x.length * 8 ≤ 140737488355328 then some (x, ((), ())) else none
def clone54_ce : CEp where
  f := 54
  args := [.one (.sl 0)]
  hs := []
  res := .val (.one (.own 0 0))
  outs := [.row 3 1]
  m := fun d dh => clone54 d.1
  ok := fun d dh r hr => by
    unfold clone54 at hr
    split at hr
    · rename_i hroom
      injection hr with hr
      subst hr
      exact clone_tr mixedP Try.func54 (by kernel_rfl) rfl rfl (zv := .int .i64 0) (he := by kernel_rfl) (hsz := by kernel_rfl) (hz := by kernel_rfl) (hby := by kernel_rfl) rfl rfl d.1 hroom
    · cases hr

def ferry_own_4_dr : Nat → Nat → DrA
  | 2, _ => ⟨[0, 3, 6, 9, 1, 4, 7, 10, 2, 5, 8, 11, 12, 13, 14], [[], [0], [0, 1], [], [3], (List.range 5), [], [6], (List.range 8), [], [9], (List.range 11), (List.range 12), (List.range 13), (List.range 14)], [4, 7, 10], [2, 5, 8], [2], false, []⟩
  | _, _ => ⟨[], [], [], [], [], false, []⟩
def ferry_own_4_tb : List (CEp) := [clone54_ce]
def ferry_own_4 (x0 : DBase) : Option ((DBase) × Unit) :=
  (clone54 x0.config.voters).bind fun r1 =>
  (clone54 x0.config.old).bind fun r2 =>
  (clone54 x0.config.learners).bind fun r3 =>
  (clone54 x0.config.want).bind fun r4 =>
  some ((⟨x0.index, x0.term_, (⟨r1.1, r2.1, r3.1, r4.1⟩ : DConfig)⟩ : DBase), ())
def ferry_own_4_ce : CEp where
  f := 33
  args := [.cod 14]
  hs := []
  res := .val (.cod 14)
  outs := []
  m := fun d dh => ferry_own_4 d.1
  ok := ce_ok mixedP Try.func33 (by kernel_rfl) (orcOf_ok ferry_own_4_tb) (dr := ferry_own_4_dr) (lps := lpsOf lt0) (lps_fn (no_loop (by kernel_rfl))) (fun d dh => by kernel_rfl)

def clone34 (x : LB) : Option (LB × (Unit × Unit)) :=
  if x.length ≤ 140737488355328 ∧ x.length * 1 ≤ 140737488355328 then some (x, ((), ())) else none
def clone34_ce : CEp where
  f := 34
  args := [.one (.sl 1)]
  hs := []
  res := .val (.one (.own 1 0))
  outs := [.row 5 1]
  m := fun d dh => clone34 d.1
  ok := fun d dh r hr => by
    unfold clone34 at hr
    split at hr
    · rename_i hroom
      injection hr with hr
      subst hr
      exact clone_tr mixedP Try.func34 (by kernel_rfl) rfl rfl (zv := .int .u8 0) (he := by kernel_rfl) (hsz := by kernel_rfl) (hz := by kernel_rfl) (hby := by kernel_rfl) rfl rfl d.1 hroom
    · cases hr

def ferry_Fill_3_dr : Nat → Nat → DrA
  | 3, _ => ⟨[0, 3, 1, 4, 5, 2, 6, 7, 8, 9], [[], [0], [0, 1], [], [3], [3, 4], [0, 1, 2], [0, 1, 2, 6], (List.range 8), (List.range 9)], [4], [2, 7], [1], false, []⟩
  | _, _ => ⟨[], [], [], [], [], false, []⟩
def ferry_Fill_3_tb : List (CEp) := [ferry_own_4_ce, clone34_ce]
def ferry_Fill_3 (x0 : DLetter) (x1 : DImage) : Option (((DLetter) × Bool × Unit) × Unit) :=
  (bif (decide ((x0.kind : Int) ≠ 5)) then
  some (((⟨0, 0, 0, 0, 0, 0, 0, 0, false, [], (⟨0, 0, (⟨[], [], [], []⟩ : DConfig)⟩ : DBase), 0, 0, 0, []⟩ : DLetter), false, ()), ())
  else
  (bif (decide ((x0.base.index : Int) ≠ x1.base.index)) then
  some (((⟨0, 0, 0, 0, 0, 0, 0, 0, false, [], (⟨0, 0, (⟨[], [], [], []⟩ : DConfig)⟩ : DBase), 0, 0, 0, []⟩ : DLetter), false, ()), ())
  else
  (bif (decide ((x0.base.term_ : Int) ≠ x1.base.term_)) then
  some (((⟨0, 0, 0, 0, 0, 0, 0, 0, false, [], (⟨0, 0, (⟨[], [], [], []⟩ : DConfig)⟩ : DBase), 0, 0, 0, []⟩ : DLetter), false, ()), ())
  else
  (bif (decide ((x0.at_ : Int) < 0)) then
  some (((⟨0, 0, 0, 0, 0, 0, 0, 0, false, [], (⟨0, 0, (⟨[], [], [], []⟩ : DConfig)⟩ : DBase), 0, 0, 0, []⟩ : DLetter), false, ()), ())
  else
  (bif (decide (((x1.bytes.length : Int) : Int) < x0.at_)) then
  some (((⟨0, 0, 0, 0, 0, 0, 0, 0, false, [], (⟨0, 0, (⟨[], [], [], []⟩ : DConfig)⟩ : DBase), 0, 0, 0, []⟩ : DLetter), false, ()), ())
  else
  (ferry_own_4 x1.base).bind fun r1 =>
  let y2 : Int := (if ((x1.bytes.length : Int) : Int) < (IntKind.i64.wrap (x0.at_ + 600)) then (x1.bytes.length : Int) else (IntKind.i64.wrap (x0.at_ + 600)))
  (if 0 ≤ (x0.at_ : Int) ∧ (x0.at_ : Int) ≤ y2 ∧ y2 ≤ (x1.bytes.length : Int) then
  let y3 : LB := ((x1.bytes.drop (x0.at_ : Int).toNat).take ((y2 : Int).toNat - (x0.at_ : Int).toNat))
  (clone34 y3).bind fun r4 =>
  some (((⟨x0.kind, x0.group, x0.from_, x0.to_, x0.term_, x0.index, x0.logTerm, x0.commit, x0.ok, [], r1.1, (x1.bytes.length : Int), x0.at_, x0.tag, r4.1⟩ : DLetter), true, ()), ())
  else none))))))
def ferry_Fill_3_ce : CEp where
  f := 12
  args := [.cod 20, .cod 16]
  hs := []
  res := .tup [.cod 20, .one (.bool)]
  outs := []
  m := fun d dh => ferry_Fill_3 d.1 d.2.1
  ok := ce_ok mixedP Try.func12 (by kernel_rfl) (orcOf_ok ferry_Fill_3_tb) (dr := ferry_Fill_3_dr) (lps := lpsOf lt0) (lps_fn (no_loop (by kernel_rfl))) (fun d dh => by kernel_rfl)

def w13_New_tb : List (CEp) := []
def w13_New  : Option (Unit × ((Bool × Int × Int × Int × Int × LB × Unit) × Unit × Unit)) :=
  some ((), ((false, 0, 0, 0, 0, [], ()), (), ()))
def w13_New_ce : CEp where
  f := 19
  args := []
  hs := []
  res := .val (.one (.ptr 0 0))
  outs := [.obj 73 [.bool, .int .i64, .int .i64, .int .i64, .int .i64, .own 1 1], .row 5 1]
  m := fun d dh => w13_New
  ok := ceO Try.func19 (by kernel_rfl) w13_New_tb (by kernel_rfl) fun d dh => by kernel_rfl

def w13_Drop_tb : List (CEp) := []
def w13_Drop (h0 : Bool × Int × Int × Int × Int × LB × Unit) : Option (Unit × ((Bool × Int × Int × Int × Int × LB × Unit) × Unit × Unit × Unit)) :=
  some ((), ((false, 0, 0, 0, 0, [], ()), (), (), ()))
def w13_Drop_ce : CEp where
  f := 21
  args := [.one (.ptr 0 0)]
  hs := [.obj 73 [.bool, .int .i64, .int .i64, .int .i64, .int .i64, .own 1 1], .row 5 1]
  res := .tup []
  outs := [.obj 73 [.bool, .int .i64, .int .i64, .int .i64, .int .i64, .own 1 2], .dead, .row 5 1]
  m := fun d dh => w13_Drop dh.1
  ok := ceO Try.func21 (by kernel_rfl) w13_Drop_tb (by kernel_rfl) fun d dh => by kernel_rfl

def ferry_right_2_tb : List (CEp) := []
def ferry_right_2 (x0 : Int × Int × Int × Int × Int × Int × Int × Int × Bool × (Nat × Nat × Nat × Unit) × Int × Int × (Nat × Nat × Nat) × (Nat × Nat × Nat) × (Nat × Nat × Nat) × (Nat × Nat × Nat) × Int × Int × Int × (Nat × Nat × Nat) × Unit) (h0 : List (DEntryX)) (h1 : LI) (h2 : LI) (h3 : LI) (h4 : LI) (h5 : LB) : Option (Bool × ((List (DEntryX)) × LI × LI × LI × LI × LB × Unit)) :=
  (bif (decide ((x0.1 : Int) = 5)) then
  (bif (decide ((0 : Int) ≤ x0.2.2.2.2.2.2.2.2.2.2.2.2.2.2.2.2.1)) then
  (bif (decide ((x0.2.2.2.2.2.2.2.2.2.2.2.2.2.2.2.2.1 : Int) ≤ 131072)) then
  (bif (decide ((0 : Int) ≤ x0.2.2.2.2.2.2.2.2.2.2.2.2.2.2.2.2.2.1)) then
  (bif (decide ((x0.2.2.2.2.2.2.2.2.2.2.2.2.2.2.2.2.2.1 : Int) ≤ x0.2.2.2.2.2.2.2.2.2.2.2.2.2.2.2.2.1)) then
  let y1 : Bool := (decide ((((x0.2.2.2.2.2.2.2.2.2.2.2.2.2.2.2.2.2.2.2.1.2.1 : Nat) : Int) : Int) ≤ (IntKind.i64.wrap (x0.2.2.2.2.2.2.2.2.2.2.2.2.2.2.2.2.1 - x0.2.2.2.2.2.2.2.2.2.2.2.2.2.2.2.2.2.1))))
  some (y1, (h0, h1, h2, h3, h4, h5, ()))
  else
  some (false, (h0, h1, h2, h3, h4, h5, ())))
  else
  some (false, (h0, h1, h2, h3, h4, h5, ())))
  else
  some (false, (h0, h1, h2, h3, h4, h5, ())))
  else
  some (false, (h0, h1, h2, h3, h4, h5, ())))
  else
  some (false, (h0, h1, h2, h3, h4, h5, ())))
def ferry_right_2_ce : CEp where
  f := 46
  args := [.agg [.int .u8, .int .i64, .int .i64, .int .i64, .int .i64, .int .i64, .int .i64, .int .i64, .bool, .gv 0 28 3, .int .i64, .int .i64, .as 0 1, .as 0 2, .as 0 3, .as 0 4, .int .i64, .int .i64, .int .i64, .as 1 5]]
  hs := [.gen 8 true, .arr 3 0 true, .arr 3 0 true, .arr 3 0 true, .arr 3 0 true, .arr 5 1 true]
  res := .val (.one (.bool))
  outs := [.gen 8 true, .arr 3 0 true, .arr 3 0 true, .arr 3 0 true, .arr 3 0 true, .arr 5 1 true]
  m := fun d dh => ferry_right_2 d.1 dh.1 dh.2.1 dh.2.2.1 dh.2.2.2.1 dh.2.2.2.2.1 dh.2.2.2.2.2.1
  ok := ceO Try.func46 (by kernel_rfl) ferry_right_2_tb (by kernel_rfl) fun d dh => by kernel_rfl

def ferry_of_2_tb : List (CEp) := []
def ferry_of_2 (x0 : Int × Int × Int × Int × Int × Int × Int × Int × Bool × (Nat × Nat × Nat × Unit) × Int × Int × (Nat × Nat × Nat) × (Nat × Nat × Nat) × (Nat × Nat × Nat) × (Nat × Nat × Nat) × Int × Int × Int × (Nat × Nat × Nat) × Unit) (h0 : List (DEntryX)) (h1 : LI) (h2 : LI) (h3 : LI) (h4 : LI) (h5 : LB) : Option ((DCrossing) × ((List (DEntryX)) × LI × LI × LI × LI × LB × Unit)) :=
  some ((⟨x0.2.2.2.2.1, x0.2.2.2.2.2.2.2.2.2.2.1, x0.2.2.2.2.2.2.2.2.2.2.2.1, x0.2.2.2.2.2.2.2.2.2.2.2.2.2.2.2.2.1⟩ : DCrossing), (h0, h1, h2, h3, h4, h5, ()))
def ferry_of_2_ce : CEp where
  f := 47
  args := [.agg [.int .u8, .int .i64, .int .i64, .int .i64, .int .i64, .int .i64, .int .i64, .int .i64, .bool, .gv 0 28 3, .int .i64, .int .i64, .as 0 1, .as 0 2, .as 0 3, .as 0 4, .int .i64, .int .i64, .int .i64, .as 1 5]]
  hs := [.gen 8 true, .arr 3 0 true, .arr 3 0 true, .arr 3 0 true, .arr 3 0 true, .arr 5 1 true]
  res := .val (.cod 21)
  outs := [.gen 8 true, .arr 3 0 true, .arr 3 0 true, .arr 3 0 true, .arr 3 0 true, .arr 5 1 true]
  m := fun d dh => ferry_of_2 d.1 dh.1 dh.2.1 dh.2.2.1 dh.2.2.2.1 dh.2.2.2.2.1 dh.2.2.2.2.2.1
  ok := ceO Try.func47 (by kernel_rfl) ferry_of_2_tb (by kernel_rfl) fun d dh => by kernel_rfl

def ferry_lay_2_tb : List (CEp) := []
def ferry_lay_2 (x1 : Nat × Nat × Nat) (h0 : Int × Int × Int × Int × Bool × Bool × Nat × Unit) (h1 : LB) (h2 : LB) : Option (Unit × ((Int × Int × Int × Int × Bool × Bool × Nat × Unit) × LB × Unit × LB × Unit)) :=
  (if x1.1 + x1.2.1 ≤ h1.length then
  (if (h0.2.2.2.2.2.2.1 + ((h1.drop x1.1).take x1.2.1).length) ≤ 140737488355328 ∧ (h0.2.2.2.2.2.2.1 + ((h1.drop x1.1).take x1.2.1).length) * 1 ≤ 140737488355328 ∧ 0 + h0.2.2.2.2.2.2.1 ≤ h2.length then
  some ((), ((h0.1, h0.2.1, h0.2.2.1, h0.2.2.2.1, h0.2.2.2.2.1, h0.2.2.2.2.2.1, (h0.2.2.2.2.2.2.1 + ((h1.drop x1.1).take x1.2.1).length), ()), h1, (), (h2.take h0.2.2.2.2.2.2.1 ++ ((h1.drop x1.1).take x1.2.1)), ()))
  else none)
  else none)
def ferry_lay_2_ce : CEp where
  f := 48
  args := [.one (.ptr 0 0), .one (.as 1 1)]
  hs := [.obj 56 [.int .i64, .int .i64, .int .i64, .int .i64, .bool, .bool, .asz 1 2], .arr 5 1 true, .arr 5 1 false]
  res := .tup []
  outs := [.obj 56 [.int .i64, .int .i64, .int .i64, .int .i64, .bool, .bool, .asz 1 3], .arr 5 1 true, .dead, .arr 5 1 false]
  m := fun d dh => ferry_lay_2 d.2.1 dh.1 dh.2.1 dh.2.2.1
  ok := ceO Try.func48 (by kernel_rfl) ferry_lay_2_tb (by kernel_rfl) fun d dh => by kernel_rfl

def ferry_Take_2_dr : Nat → Nat → DrA
  | 2, _ => ⟨[1, 2, 0, 3], [[], [], [1], [0, 1, 2]], [], [], [], false, []⟩
  | 3, _ => ⟨(List.range 14), [[], [0], [0, 1], [0, 1, 2], [0, 1, 2, 3], (List.range 5), (List.range 6), (List.range 7), (List.range 8), (List.range 9), (List.range 6), (List.range 6 ++ [10]), (List.range 12), (List.range 13)], [9], [11], [0], false, []⟩
  | 5, _ => ⟨[1, 2, 0, 3], [[], [], [1], [0, 1, 2]], [], [], [], false, []⟩
  | 8, _ => ⟨[0, 2, 3, 4, 1, 5, 6, 7], [[], [0], [], [2], [2, 3], [2, 3, 4], [2, 3, 4, 5], (List.range 7)], [], [], [], false, []⟩
  | 9, _ => ⟨[0, 1, 3, 4, 5, 8, 11, 2, 6, 7, 9, 10, 12, 13, 14, 15, 16], [[], [], [1], [], [3], [3, 4], [3, 4, 5], [3, 4, 5, 6], [], [8], [3, 4, 5, 6, 7, 8, 9], [], [11], [11, 12], [3, 4, 5, 6, 7, 8, 9, 10, 11, 12, 13], [1, 2, 3, 4, 5, 6, 7, 8, 9, 10, 11, 12, 13, 14], (List.range 16)], [], [], [], false, []⟩
  | 12, _ => ⟨[0, 2, 3, 1, 4], [[], [], [0], [0, 2], [0, 1, 2, 3]], [], [], [], false, []⟩
  | 13, _ => ⟨[0, 3, 4, 5, 1, 6, 2, 7, 8], [[], [0], [0, 1], [], [3], [3, 4], [3, 4, 5], (List.range 7), (List.range 8)], [6], [2], [0], false, []⟩
  | 15, _ => ⟨[0, 2, 3, 1, 4], [[], [], [0], [0, 2], [0, 1, 2, 3]], [], [], [], false, []⟩
  | _, _ => ⟨[], [], [], [], [], false, []⟩
def ferry_Take_2_tb : List (CEp) := [ferry_right_2_ce, ferry_Drop_ce, ferry_of_2_ce, ferry_lay_2_ce, ferry_own_3_ce]
def ferry_Take_2 (x1 : Int × Int × Int × Int × Int × Int × Int × Int × Bool × (Nat × Nat × Nat × Unit) × Int × Int × (Nat × Nat × Nat) × (Nat × Nat × Nat) × (Nat × Nat × Nat) × (Nat × Nat × Nat) × Int × Int × Int × (Nat × Nat × Nat) × Unit) (h0 : Int × Int × Int × Int × Bool × Bool × Nat × Unit) (h1 : List (DEntryX)) (h2 : LI) (h3 : LI) (h4 : LI) (h5 : LI) (h6 : LB) (h7 : LB) : Option ((Int × Bool × (Int × Int × Nat × Nat × Nat × Nat × Nat × Unit) × Unit) × ((Int × Int × Int × Int × Bool × Bool × Nat × Unit) × (List (DEntryX)) × LI × LI × LI × LI × LB × Unit × LI × LI × LI × LI × LB × LB × Unit)) :=
  (bif (!h0.2.2.2.2.1) then
  some ((0, false, (0, 0, 0, 0, 0, 0, 0, ()), ()), ((h0.1, h0.2.1, h0.2.2.1, h0.2.2.2.1, h0.2.2.2.2.1, h0.2.2.2.2.2.1, h0.2.2.2.2.2.2.1, ()), h1, h2, h3, h4, h5, h6, (), [], [], [], [], [], h7, ()))
  else
  (ferry_right_2 (x1.1, x1.2.1, x1.2.2.1, x1.2.2.2.1, x1.2.2.2.2.1, x1.2.2.2.2.2.1, x1.2.2.2.2.2.2.1, x1.2.2.2.2.2.2.2.1, x1.2.2.2.2.2.2.2.2.1, (x1.2.2.2.2.2.2.2.2.2.1.1, x1.2.2.2.2.2.2.2.2.2.1.2.1, x1.2.2.2.2.2.2.2.2.2.1.2.2.1, ()), x1.2.2.2.2.2.2.2.2.2.2.1, x1.2.2.2.2.2.2.2.2.2.2.2.1, (x1.2.2.2.2.2.2.2.2.2.2.2.2.1.1, x1.2.2.2.2.2.2.2.2.2.2.2.2.1.2.1, x1.2.2.2.2.2.2.2.2.2.2.2.2.1.2.2), (x1.2.2.2.2.2.2.2.2.2.2.2.2.2.1.1, x1.2.2.2.2.2.2.2.2.2.2.2.2.2.1.2.1, x1.2.2.2.2.2.2.2.2.2.2.2.2.2.1.2.2), (x1.2.2.2.2.2.2.2.2.2.2.2.2.2.2.1.1, x1.2.2.2.2.2.2.2.2.2.2.2.2.2.2.1.2.1, x1.2.2.2.2.2.2.2.2.2.2.2.2.2.2.1.2.2), (x1.2.2.2.2.2.2.2.2.2.2.2.2.2.2.2.1.1, x1.2.2.2.2.2.2.2.2.2.2.2.2.2.2.2.1.2.1, x1.2.2.2.2.2.2.2.2.2.2.2.2.2.2.2.1.2.2), x1.2.2.2.2.2.2.2.2.2.2.2.2.2.2.2.2.1, x1.2.2.2.2.2.2.2.2.2.2.2.2.2.2.2.2.2.1, x1.2.2.2.2.2.2.2.2.2.2.2.2.2.2.2.2.2.2.1, (x1.2.2.2.2.2.2.2.2.2.2.2.2.2.2.2.2.2.2.2.1.1, x1.2.2.2.2.2.2.2.2.2.2.2.2.2.2.2.2.2.2.2.1.2.1, x1.2.2.2.2.2.2.2.2.2.2.2.2.2.2.2.2.2.2.2.1.2.2), ()) h1 h2 h3 h4 h5 h6).bind fun r1 =>
  (bif (!r1.1) then
  some ((0, false, (0, 0, 0, 0, 0, 0, 0, ()), ()), ((h0.1, h0.2.1, h0.2.2.1, h0.2.2.2.1, h0.2.2.2.2.1, h0.2.2.2.2.2.1, h0.2.2.2.2.2.2.1, ()), r1.2.1, r1.2.2.1, r1.2.2.2.1, r1.2.2.2.2.1, r1.2.2.2.2.2.1, r1.2.2.2.2.2.2.1, (), [], [], [], [], [], h7, ()))
  else
  (bif (!h0.2.2.2.2.2.1) then
  (bif (decide ((x1.2.2.2.2.2.2.2.2.2.2.2.2.2.2.2.2.2.1 : Int) ≠ 0)) then
  some ((0, false, (0, 0, 0, 0, 0, 0, 0, ()), ()), ((h0.1, h0.2.1, h0.2.2.1, h0.2.2.2.1, h0.2.2.2.2.1, h0.2.2.2.2.2.1, h0.2.2.2.2.2.2.1, ()), r1.2.1, r1.2.2.1, r1.2.2.2.1, r1.2.2.2.2.1, r1.2.2.2.2.2.1, r1.2.2.2.2.2.2.1, (), [], [], [], [], [], h7, ()))
  else
  (ferry_Drop (h0.1, h0.2.1, h0.2.2.1, h0.2.2.2.1, h0.2.2.2.2.1, h0.2.2.2.2.2.1, (), ())).bind fun r2 =>
  (ferry_of_2 (x1.1, x1.2.1, x1.2.2.1, x1.2.2.2.1, x1.2.2.2.2.1, x1.2.2.2.2.2.1, x1.2.2.2.2.2.2.1, x1.2.2.2.2.2.2.2.1, x1.2.2.2.2.2.2.2.2.1, (x1.2.2.2.2.2.2.2.2.2.1.1, x1.2.2.2.2.2.2.2.2.2.1.2.1, x1.2.2.2.2.2.2.2.2.2.1.2.2.1, ()), x1.2.2.2.2.2.2.2.2.2.2.1, x1.2.2.2.2.2.2.2.2.2.2.2.1, (x1.2.2.2.2.2.2.2.2.2.2.2.2.1.1, x1.2.2.2.2.2.2.2.2.2.2.2.2.1.2.1, x1.2.2.2.2.2.2.2.2.2.2.2.2.1.2.2), (x1.2.2.2.2.2.2.2.2.2.2.2.2.2.1.1, x1.2.2.2.2.2.2.2.2.2.2.2.2.2.1.2.1, x1.2.2.2.2.2.2.2.2.2.2.2.2.2.1.2.2), (x1.2.2.2.2.2.2.2.2.2.2.2.2.2.2.1.1, x1.2.2.2.2.2.2.2.2.2.2.2.2.2.2.1.2.1, x1.2.2.2.2.2.2.2.2.2.2.2.2.2.2.1.2.2), (x1.2.2.2.2.2.2.2.2.2.2.2.2.2.2.2.1.1, x1.2.2.2.2.2.2.2.2.2.2.2.2.2.2.2.1.2.1, x1.2.2.2.2.2.2.2.2.2.2.2.2.2.2.2.1.2.2), x1.2.2.2.2.2.2.2.2.2.2.2.2.2.2.2.2.1, x1.2.2.2.2.2.2.2.2.2.2.2.2.2.2.2.2.2.1, x1.2.2.2.2.2.2.2.2.2.2.2.2.2.2.2.2.2.2.1, (x1.2.2.2.2.2.2.2.2.2.2.2.2.2.2.2.2.2.2.2.1.1, x1.2.2.2.2.2.2.2.2.2.2.2.2.2.2.2.2.2.2.2.1.2.1, x1.2.2.2.2.2.2.2.2.2.2.2.2.2.2.2.2.2.2.2.1.2.2), ()) r1.2.1 r1.2.2.1 r1.2.2.2.1 r1.2.2.2.2.1 r1.2.2.2.2.2.1 r1.2.2.2.2.2.2.1).bind fun r3 =>
  (bif (decide ((x1.2.2.2.2.2.2.2.2.2.2.2.2.2.2.2.2.2.1 : Int) ≤ ((r2.2.1.2.2.2.2.2.2.1 : Nat) : Int))) then
  let y4 : Int := (if (((x1.2.2.2.2.2.2.2.2.2.2.2.2.2.2.2.2.2.2.2.1.2.1 : Nat) : Int) : Int) < (IntKind.i64.wrap (((r2.2.1.2.2.2.2.2.2.1 : Nat) : Int) - x1.2.2.2.2.2.2.2.2.2.2.2.2.2.2.2.2.2.1)) then ((x1.2.2.2.2.2.2.2.2.2.2.2.2.2.2.2.2.2.2.2.1.2.1 : Nat) : Int) else (IntKind.i64.wrap (((r2.2.1.2.2.2.2.2.2.1 : Nat) : Int) - x1.2.2.2.2.2.2.2.2.2.2.2.2.2.2.2.2.2.1)))
  (if 0 ≤ ((y4 : Int) : Int) ∧ ((y4 : Int) : Int) ≤ ((x1.2.2.2.2.2.2.2.2.2.2.2.2.2.2.2.2.2.2.2.1.2.1 : Nat) : Int) ∧ ((x1.2.2.2.2.2.2.2.2.2.2.2.2.2.2.2.2.2.2.2.1.2.1 : Nat) : Int) ≤ ((x1.2.2.2.2.2.2.2.2.2.2.2.2.2.2.2.2.2.2.2.1.2.2 : Nat) : Int) ∧ ((x1.2.2.2.2.2.2.2.2.2.2.2.2.2.2.2.2.2.2.2.1.2.1 : Nat) : Int) ≤ 140737488355328 then
  (ferry_lay_2 ((x1.2.2.2.2.2.2.2.2.2.2.2.2.2.2.2.2.2.2.2.1.1 + (y4 : Int).toNat), (((x1.2.2.2.2.2.2.2.2.2.2.2.2.2.2.2.2.2.2.2.1.2.1 : Nat) : Int).toNat - (y4 : Int).toNat), (x1.2.2.2.2.2.2.2.2.2.2.2.2.2.2.2.2.2.2.2.1.2.2 - (y4 : Int).toNat)) (r3.1.term_, r3.1.index, r3.1.base, r3.1.size, r2.2.1.2.2.2.2.1, true, r2.2.1.2.2.2.2.2.2.1, ()) r3.2.2.2.2.2.2.1 r2.2.2.1).bind fun r5 =>
  (bif (decide ((((r5.2.1.2.2.2.2.2.2.1 : Nat) : Int) : Int) < r5.2.1.2.2.2.1)) then
  some ((((r5.2.1.2.2.2.2.2.2.1 : Nat) : Int), false, (0, 0, 0, 0, 0, 0, 0, ()), ()), ((r5.2.1.1, r5.2.1.2.1, r5.2.1.2.2.1, r5.2.1.2.2.2.1, r5.2.1.2.2.2.2.1, r5.2.1.2.2.2.2.2.1, r5.2.1.2.2.2.2.2.2.1, ()), r3.2.1, r3.2.2.1, r3.2.2.2.1, r3.2.2.2.2.1, r3.2.2.2.2.2.1, r5.2.2.1, (), [], [], [], [], [], r5.2.2.2.2.1, ()))
  else
  (ferry_own_3 (x1.2.2.2.2.2.2.2.2.2.2.1, x1.2.2.2.2.2.2.2.2.2.2.2.1, (x1.2.2.2.2.2.2.2.2.2.2.2.2.1.1, x1.2.2.2.2.2.2.2.2.2.2.2.2.1.2.1, x1.2.2.2.2.2.2.2.2.2.2.2.2.1.2.2), (x1.2.2.2.2.2.2.2.2.2.2.2.2.2.1.1, x1.2.2.2.2.2.2.2.2.2.2.2.2.2.1.2.1, x1.2.2.2.2.2.2.2.2.2.2.2.2.2.1.2.2), (x1.2.2.2.2.2.2.2.2.2.2.2.2.2.2.1.1, x1.2.2.2.2.2.2.2.2.2.2.2.2.2.2.1.2.1, x1.2.2.2.2.2.2.2.2.2.2.2.2.2.2.1.2.2), (x1.2.2.2.2.2.2.2.2.2.2.2.2.2.2.2.1.1, x1.2.2.2.2.2.2.2.2.2.2.2.2.2.2.2.1.2.1, x1.2.2.2.2.2.2.2.2.2.2.2.2.2.2.2.1.2.2), ()) r3.2.2.1 r3.2.2.2.1 r3.2.2.2.2.1 r3.2.2.2.2.2.1).bind fun r6 =>
  (ferry_Drop (r5.2.1.1, r5.2.1.2.1, r5.2.1.2.2.1, r5.2.1.2.2.2.1, r5.2.1.2.2.2.2.1, r5.2.1.2.2.2.2.2.1, (), ())).bind fun r7 =>
  some ((((r5.2.1.2.2.2.2.2.2.1 : Nat) : Int), true, (r6.1.1, r6.1.2.1, r6.1.2.2.1, r6.1.2.2.2.1, r6.1.2.2.2.2.1, r6.1.2.2.2.2.2.1, r5.2.1.2.2.2.2.2.2.1, ()), ()), ((r7.2.1.1, r7.2.1.2.1, r7.2.1.2.2.1, r7.2.1.2.2.2.1, r7.2.1.2.2.2.2.1, r7.2.1.2.2.2.2.2.1, r7.2.1.2.2.2.2.2.2.1, ()), r3.2.1, r6.2.1, r6.2.2.1, r6.2.2.2.1, r6.2.2.2.2.1, r5.2.2.1, (), r6.2.2.2.2.2.1, r6.2.2.2.2.2.2.1, r6.2.2.2.2.2.2.2.1, r6.2.2.2.2.2.2.2.2.1, r5.2.2.2.2.1, r7.2.2.1, ())))
  else none)
  else
  (bif (decide ((((r2.2.1.2.2.2.2.2.2.1 : Nat) : Int) : Int) < r3.1.size)) then
  some ((((r2.2.1.2.2.2.2.2.2.1 : Nat) : Int), false, (0, 0, 0, 0, 0, 0, 0, ()), ()), ((r3.1.term_, r3.1.index, r3.1.base, r3.1.size, r2.2.1.2.2.2.2.1, true, r2.2.1.2.2.2.2.2.2.1, ()), r3.2.1, r3.2.2.1, r3.2.2.2.1, r3.2.2.2.2.1, r3.2.2.2.2.2.1, r3.2.2.2.2.2.2.1, (), [], [], [], [], [], r2.2.2.1, ()))
  else
  (ferry_own_3 (x1.2.2.2.2.2.2.2.2.2.2.1, x1.2.2.2.2.2.2.2.2.2.2.2.1, (x1.2.2.2.2.2.2.2.2.2.2.2.2.1.1, x1.2.2.2.2.2.2.2.2.2.2.2.2.1.2.1, x1.2.2.2.2.2.2.2.2.2.2.2.2.1.2.2), (x1.2.2.2.2.2.2.2.2.2.2.2.2.2.1.1, x1.2.2.2.2.2.2.2.2.2.2.2.2.2.1.2.1, x1.2.2.2.2.2.2.2.2.2.2.2.2.2.1.2.2), (x1.2.2.2.2.2.2.2.2.2.2.2.2.2.2.1.1, x1.2.2.2.2.2.2.2.2.2.2.2.2.2.2.1.2.1, x1.2.2.2.2.2.2.2.2.2.2.2.2.2.2.1.2.2), (x1.2.2.2.2.2.2.2.2.2.2.2.2.2.2.2.1.1, x1.2.2.2.2.2.2.2.2.2.2.2.2.2.2.2.1.2.1, x1.2.2.2.2.2.2.2.2.2.2.2.2.2.2.2.1.2.2), ()) r3.2.2.1 r3.2.2.2.1 r3.2.2.2.2.1 r3.2.2.2.2.2.1).bind fun r8 =>
  (ferry_Drop (r3.1.term_, r3.1.index, r3.1.base, r3.1.size, r2.2.1.2.2.2.2.1, true, (), ())).bind fun r9 =>
  some ((((r2.2.1.2.2.2.2.2.2.1 : Nat) : Int), true, (r8.1.1, r8.1.2.1, r8.1.2.2.1, r8.1.2.2.2.1, r8.1.2.2.2.2.1, r8.1.2.2.2.2.2.1, r2.2.1.2.2.2.2.2.2.1, ()), ()), ((r9.2.1.1, r9.2.1.2.1, r9.2.1.2.2.1, r9.2.1.2.2.2.1, r9.2.1.2.2.2.2.1, r9.2.1.2.2.2.2.2.1, r9.2.1.2.2.2.2.2.2.1, ()), r3.2.1, r8.2.1, r8.2.2.1, r8.2.2.2.1, r8.2.2.2.2.1, r3.2.2.2.2.2.2.1, (), r8.2.2.2.2.2.1, r8.2.2.2.2.2.2.1, r8.2.2.2.2.2.2.2.1, r8.2.2.2.2.2.2.2.2.1, r2.2.2.1, r9.2.2.1, ())))))
  else
  (ferry_of_2 (x1.1, x1.2.1, x1.2.2.1, x1.2.2.2.1, x1.2.2.2.2.1, x1.2.2.2.2.2.1, x1.2.2.2.2.2.2.1, x1.2.2.2.2.2.2.2.1, x1.2.2.2.2.2.2.2.2.1, (x1.2.2.2.2.2.2.2.2.2.1.1, x1.2.2.2.2.2.2.2.2.2.1.2.1, x1.2.2.2.2.2.2.2.2.2.1.2.2.1, ()), x1.2.2.2.2.2.2.2.2.2.2.1, x1.2.2.2.2.2.2.2.2.2.2.2.1, (x1.2.2.2.2.2.2.2.2.2.2.2.2.1.1, x1.2.2.2.2.2.2.2.2.2.2.2.2.1.2.1, x1.2.2.2.2.2.2.2.2.2.2.2.2.1.2.2), (x1.2.2.2.2.2.2.2.2.2.2.2.2.2.1.1, x1.2.2.2.2.2.2.2.2.2.2.2.2.2.1.2.1, x1.2.2.2.2.2.2.2.2.2.2.2.2.2.1.2.2), (x1.2.2.2.2.2.2.2.2.2.2.2.2.2.2.1.1, x1.2.2.2.2.2.2.2.2.2.2.2.2.2.2.1.2.1, x1.2.2.2.2.2.2.2.2.2.2.2.2.2.2.1.2.2), (x1.2.2.2.2.2.2.2.2.2.2.2.2.2.2.2.1.1, x1.2.2.2.2.2.2.2.2.2.2.2.2.2.2.2.1.2.1, x1.2.2.2.2.2.2.2.2.2.2.2.2.2.2.2.1.2.2), x1.2.2.2.2.2.2.2.2.2.2.2.2.2.2.2.2.1, x1.2.2.2.2.2.2.2.2.2.2.2.2.2.2.2.2.2.1, x1.2.2.2.2.2.2.2.2.2.2.2.2.2.2.2.2.2.2.1, (x1.2.2.2.2.2.2.2.2.2.2.2.2.2.2.2.2.2.2.2.1.1, x1.2.2.2.2.2.2.2.2.2.2.2.2.2.2.2.2.2.2.2.1.2.1, x1.2.2.2.2.2.2.2.2.2.2.2.2.2.2.2.2.2.2.2.1.2.2), ()) r1.2.1 r1.2.2.1 r1.2.2.2.1 r1.2.2.2.2.1 r1.2.2.2.2.2.1 r1.2.2.2.2.2.2.1).bind fun r10 =>
  (bif (!(decide ((h0.1 : Int) = r10.1.term_) && (decide ((h0.2.1 : Int) = r10.1.index) && (decide ((h0.2.2.1 : Int) = r10.1.base) && (decide ((h0.2.2.2.1 : Int) = r10.1.size) && true))))) then
  (bif (decide ((x1.2.2.2.2.2.2.2.2.2.2.2.2.2.2.2.2.2.1 : Int) ≠ 0)) then
  some ((0, false, (0, 0, 0, 0, 0, 0, 0, ()), ()), ((h0.1, h0.2.1, h0.2.2.1, h0.2.2.2.1, h0.2.2.2.2.1, h0.2.2.2.2.2.1, h0.2.2.2.2.2.2.1, ()), r10.2.1, r10.2.2.1, r10.2.2.2.1, r10.2.2.2.2.1, r10.2.2.2.2.2.1, r10.2.2.2.2.2.2.1, (), [], [], [], [], [], h7, ()))
  else
  (ferry_Drop (h0.1, h0.2.1, h0.2.2.1, h0.2.2.2.1, h0.2.2.2.2.1, h0.2.2.2.2.2.1, (), ())).bind fun r11 =>
  (ferry_of_2 (x1.1, x1.2.1, x1.2.2.1, x1.2.2.2.1, x1.2.2.2.2.1, x1.2.2.2.2.2.1, x1.2.2.2.2.2.2.1, x1.2.2.2.2.2.2.2.1, x1.2.2.2.2.2.2.2.2.1, (x1.2.2.2.2.2.2.2.2.2.1.1, x1.2.2.2.2.2.2.2.2.2.1.2.1, x1.2.2.2.2.2.2.2.2.2.1.2.2.1, ()), x1.2.2.2.2.2.2.2.2.2.2.1, x1.2.2.2.2.2.2.2.2.2.2.2.1, (x1.2.2.2.2.2.2.2.2.2.2.2.2.1.1, x1.2.2.2.2.2.2.2.2.2.2.2.2.1.2.1, x1.2.2.2.2.2.2.2.2.2.2.2.2.1.2.2), (x1.2.2.2.2.2.2.2.2.2.2.2.2.2.1.1, x1.2.2.2.2.2.2.2.2.2.2.2.2.2.1.2.1, x1.2.2.2.2.2.2.2.2.2.2.2.2.2.1.2.2), (x1.2.2.2.2.2.2.2.2.2.2.2.2.2.2.1.1, x1.2.2.2.2.2.2.2.2.2.2.2.2.2.2.1.2.1, x1.2.2.2.2.2.2.2.2.2.2.2.2.2.2.1.2.2), (x1.2.2.2.2.2.2.2.2.2.2.2.2.2.2.2.1.1, x1.2.2.2.2.2.2.2.2.2.2.2.2.2.2.2.1.2.1, x1.2.2.2.2.2.2.2.2.2.2.2.2.2.2.2.1.2.2), x1.2.2.2.2.2.2.2.2.2.2.2.2.2.2.2.2.1, x1.2.2.2.2.2.2.2.2.2.2.2.2.2.2.2.2.2.1, x1.2.2.2.2.2.2.2.2.2.2.2.2.2.2.2.2.2.2.1, (x1.2.2.2.2.2.2.2.2.2.2.2.2.2.2.2.2.2.2.2.1.1, x1.2.2.2.2.2.2.2.2.2.2.2.2.2.2.2.2.2.2.2.1.2.1, x1.2.2.2.2.2.2.2.2.2.2.2.2.2.2.2.2.2.2.2.1.2.2), ()) r10.2.1 r10.2.2.1 r10.2.2.2.1 r10.2.2.2.2.1 r10.2.2.2.2.2.1 r10.2.2.2.2.2.2.1).bind fun r12 =>
  (bif (decide ((x1.2.2.2.2.2.2.2.2.2.2.2.2.2.2.2.2.2.1 : Int) ≤ ((r11.2.1.2.2.2.2.2.2.1 : Nat) : Int))) then
  let y13 : Int := (if (((x1.2.2.2.2.2.2.2.2.2.2.2.2.2.2.2.2.2.2.2.1.2.1 : Nat) : Int) : Int) < (IntKind.i64.wrap (((r11.2.1.2.2.2.2.2.2.1 : Nat) : Int) - x1.2.2.2.2.2.2.2.2.2.2.2.2.2.2.2.2.2.1)) then ((x1.2.2.2.2.2.2.2.2.2.2.2.2.2.2.2.2.2.2.2.1.2.1 : Nat) : Int) else (IntKind.i64.wrap (((r11.2.1.2.2.2.2.2.2.1 : Nat) : Int) - x1.2.2.2.2.2.2.2.2.2.2.2.2.2.2.2.2.2.1)))
  (if 0 ≤ ((y13 : Int) : Int) ∧ ((y13 : Int) : Int) ≤ ((x1.2.2.2.2.2.2.2.2.2.2.2.2.2.2.2.2.2.2.2.1.2.1 : Nat) : Int) ∧ ((x1.2.2.2.2.2.2.2.2.2.2.2.2.2.2.2.2.2.2.2.1.2.1 : Nat) : Int) ≤ ((x1.2.2.2.2.2.2.2.2.2.2.2.2.2.2.2.2.2.2.2.1.2.2 : Nat) : Int) ∧ ((x1.2.2.2.2.2.2.2.2.2.2.2.2.2.2.2.2.2.2.2.1.2.1 : Nat) : Int) ≤ 140737488355328 then
  (ferry_lay_2 ((x1.2.2.2.2.2.2.2.2.2.2.2.2.2.2.2.2.2.2.2.1.1 + (y13 : Int).toNat), (((x1.2.2.2.2.2.2.2.2.2.2.2.2.2.2.2.2.2.2.2.1.2.1 : Nat) : Int).toNat - (y13 : Int).toNat), (x1.2.2.2.2.2.2.2.2.2.2.2.2.2.2.2.2.2.2.2.1.2.2 - (y13 : Int).toNat)) (r12.1.term_, r12.1.index, r12.1.base, r12.1.size, r11.2.1.2.2.2.2.1, true, r11.2.1.2.2.2.2.2.2.1, ()) r12.2.2.2.2.2.2.1 r11.2.2.1).bind fun r14 =>
  (bif (decide ((((r14.2.1.2.2.2.2.2.2.1 : Nat) : Int) : Int) < r14.2.1.2.2.2.1)) then
  some ((((r14.2.1.2.2.2.2.2.2.1 : Nat) : Int), false, (0, 0, 0, 0, 0, 0, 0, ()), ()), ((r14.2.1.1, r14.2.1.2.1, r14.2.1.2.2.1, r14.2.1.2.2.2.1, r14.2.1.2.2.2.2.1, r14.2.1.2.2.2.2.2.1, r14.2.1.2.2.2.2.2.2.1, ()), r12.2.1, r12.2.2.1, r12.2.2.2.1, r12.2.2.2.2.1, r12.2.2.2.2.2.1, r14.2.2.1, (), [], [], [], [], [], r14.2.2.2.2.1, ()))
  else
  (ferry_own_3 (x1.2.2.2.2.2.2.2.2.2.2.1, x1.2.2.2.2.2.2.2.2.2.2.2.1, (x1.2.2.2.2.2.2.2.2.2.2.2.2.1.1, x1.2.2.2.2.2.2.2.2.2.2.2.2.1.2.1, x1.2.2.2.2.2.2.2.2.2.2.2.2.1.2.2), (x1.2.2.2.2.2.2.2.2.2.2.2.2.2.1.1, x1.2.2.2.2.2.2.2.2.2.2.2.2.2.1.2.1, x1.2.2.2.2.2.2.2.2.2.2.2.2.2.1.2.2), (x1.2.2.2.2.2.2.2.2.2.2.2.2.2.2.1.1, x1.2.2.2.2.2.2.2.2.2.2.2.2.2.2.1.2.1, x1.2.2.2.2.2.2.2.2.2.2.2.2.2.2.1.2.2), (x1.2.2.2.2.2.2.2.2.2.2.2.2.2.2.2.1.1, x1.2.2.2.2.2.2.2.2.2.2.2.2.2.2.2.1.2.1, x1.2.2.2.2.2.2.2.2.2.2.2.2.2.2.2.1.2.2), ()) r12.2.2.1 r12.2.2.2.1 r12.2.2.2.2.1 r12.2.2.2.2.2.1).bind fun r15 =>
  (ferry_Drop (r14.2.1.1, r14.2.1.2.1, r14.2.1.2.2.1, r14.2.1.2.2.2.1, r14.2.1.2.2.2.2.1, r14.2.1.2.2.2.2.2.1, (), ())).bind fun r16 =>
  some ((((r14.2.1.2.2.2.2.2.2.1 : Nat) : Int), true, (r15.1.1, r15.1.2.1, r15.1.2.2.1, r15.1.2.2.2.1, r15.1.2.2.2.2.1, r15.1.2.2.2.2.2.1, r14.2.1.2.2.2.2.2.2.1, ()), ()), ((r16.2.1.1, r16.2.1.2.1, r16.2.1.2.2.1, r16.2.1.2.2.2.1, r16.2.1.2.2.2.2.1, r16.2.1.2.2.2.2.2.1, r16.2.1.2.2.2.2.2.2.1, ()), r12.2.1, r15.2.1, r15.2.2.1, r15.2.2.2.1, r15.2.2.2.2.1, r14.2.2.1, (), r15.2.2.2.2.2.1, r15.2.2.2.2.2.2.1, r15.2.2.2.2.2.2.2.1, r15.2.2.2.2.2.2.2.2.1, r14.2.2.2.2.1, r16.2.2.1, ())))
  else none)
  else
  (bif (decide ((((r11.2.1.2.2.2.2.2.2.1 : Nat) : Int) : Int) < r12.1.size)) then
  some ((((r11.2.1.2.2.2.2.2.2.1 : Nat) : Int), false, (0, 0, 0, 0, 0, 0, 0, ()), ()), ((r12.1.term_, r12.1.index, r12.1.base, r12.1.size, r11.2.1.2.2.2.2.1, true, r11.2.1.2.2.2.2.2.2.1, ()), r12.2.1, r12.2.2.1, r12.2.2.2.1, r12.2.2.2.2.1, r12.2.2.2.2.2.1, r12.2.2.2.2.2.2.1, (), [], [], [], [], [], r11.2.2.1, ()))
  else
  (ferry_own_3 (x1.2.2.2.2.2.2.2.2.2.2.1, x1.2.2.2.2.2.2.2.2.2.2.2.1, (x1.2.2.2.2.2.2.2.2.2.2.2.2.1.1, x1.2.2.2.2.2.2.2.2.2.2.2.2.1.2.1, x1.2.2.2.2.2.2.2.2.2.2.2.2.1.2.2), (x1.2.2.2.2.2.2.2.2.2.2.2.2.2.1.1, x1.2.2.2.2.2.2.2.2.2.2.2.2.2.1.2.1, x1.2.2.2.2.2.2.2.2.2.2.2.2.2.1.2.2), (x1.2.2.2.2.2.2.2.2.2.2.2.2.2.2.1.1, x1.2.2.2.2.2.2.2.2.2.2.2.2.2.2.1.2.1, x1.2.2.2.2.2.2.2.2.2.2.2.2.2.2.1.2.2), (x1.2.2.2.2.2.2.2.2.2.2.2.2.2.2.2.1.1, x1.2.2.2.2.2.2.2.2.2.2.2.2.2.2.2.1.2.1, x1.2.2.2.2.2.2.2.2.2.2.2.2.2.2.2.1.2.2), ()) r12.2.2.1 r12.2.2.2.1 r12.2.2.2.2.1 r12.2.2.2.2.2.1).bind fun r17 =>
  (ferry_Drop (r12.1.term_, r12.1.index, r12.1.base, r12.1.size, r11.2.1.2.2.2.2.1, true, (), ())).bind fun r18 =>
  some ((((r11.2.1.2.2.2.2.2.2.1 : Nat) : Int), true, (r17.1.1, r17.1.2.1, r17.1.2.2.1, r17.1.2.2.2.1, r17.1.2.2.2.2.1, r17.1.2.2.2.2.2.1, r11.2.1.2.2.2.2.2.2.1, ()), ()), ((r18.2.1.1, r18.2.1.2.1, r18.2.1.2.2.1, r18.2.1.2.2.2.1, r18.2.1.2.2.2.2.1, r18.2.1.2.2.2.2.2.1, r18.2.1.2.2.2.2.2.2.1, ()), r12.2.1, r17.2.1, r17.2.2.1, r17.2.2.2.1, r17.2.2.2.2.1, r12.2.2.2.2.2.2.1, (), r17.2.2.2.2.2.1, r17.2.2.2.2.2.2.1, r17.2.2.2.2.2.2.2.1, r17.2.2.2.2.2.2.2.2.1, r11.2.2.1, r18.2.2.1, ())))))
  else
  (bif (decide ((x1.2.2.2.2.2.2.2.2.2.2.2.2.2.2.2.2.2.1 : Int) ≤ ((h0.2.2.2.2.2.2.1 : Nat) : Int))) then
  let y19 : Int := (if (((x1.2.2.2.2.2.2.2.2.2.2.2.2.2.2.2.2.2.2.2.1.2.1 : Nat) : Int) : Int) < (IntKind.i64.wrap (((h0.2.2.2.2.2.2.1 : Nat) : Int) - x1.2.2.2.2.2.2.2.2.2.2.2.2.2.2.2.2.2.1)) then ((x1.2.2.2.2.2.2.2.2.2.2.2.2.2.2.2.2.2.2.2.1.2.1 : Nat) : Int) else (IntKind.i64.wrap (((h0.2.2.2.2.2.2.1 : Nat) : Int) - x1.2.2.2.2.2.2.2.2.2.2.2.2.2.2.2.2.2.1)))
  (if 0 ≤ ((y19 : Int) : Int) ∧ ((y19 : Int) : Int) ≤ ((x1.2.2.2.2.2.2.2.2.2.2.2.2.2.2.2.2.2.2.2.1.2.1 : Nat) : Int) ∧ ((x1.2.2.2.2.2.2.2.2.2.2.2.2.2.2.2.2.2.2.2.1.2.1 : Nat) : Int) ≤ ((x1.2.2.2.2.2.2.2.2.2.2.2.2.2.2.2.2.2.2.2.1.2.2 : Nat) : Int) ∧ ((x1.2.2.2.2.2.2.2.2.2.2.2.2.2.2.2.2.2.2.2.1.2.1 : Nat) : Int) ≤ 140737488355328 then
  (ferry_lay_2 ((x1.2.2.2.2.2.2.2.2.2.2.2.2.2.2.2.2.2.2.2.1.1 + (y19 : Int).toNat), (((x1.2.2.2.2.2.2.2.2.2.2.2.2.2.2.2.2.2.2.2.1.2.1 : Nat) : Int).toNat - (y19 : Int).toNat), (x1.2.2.2.2.2.2.2.2.2.2.2.2.2.2.2.2.2.2.2.1.2.2 - (y19 : Int).toNat)) (h0.1, h0.2.1, h0.2.2.1, h0.2.2.2.1, h0.2.2.2.2.1, h0.2.2.2.2.2.1, h0.2.2.2.2.2.2.1, ()) r10.2.2.2.2.2.2.1 h7).bind fun r20 =>
  (bif (decide ((((r20.2.1.2.2.2.2.2.2.1 : Nat) : Int) : Int) < r20.2.1.2.2.2.1)) then
  some ((((r20.2.1.2.2.2.2.2.2.1 : Nat) : Int), false, (0, 0, 0, 0, 0, 0, 0, ()), ()), ((r20.2.1.1, r20.2.1.2.1, r20.2.1.2.2.1, r20.2.1.2.2.2.1, r20.2.1.2.2.2.2.1, r20.2.1.2.2.2.2.2.1, r20.2.1.2.2.2.2.2.2.1, ()), r10.2.1, r10.2.2.1, r10.2.2.2.1, r10.2.2.2.2.1, r10.2.2.2.2.2.1, r20.2.2.1, (), [], [], [], [], [], r20.2.2.2.2.1, ()))
  else
  (ferry_own_3 (x1.2.2.2.2.2.2.2.2.2.2.1, x1.2.2.2.2.2.2.2.2.2.2.2.1, (x1.2.2.2.2.2.2.2.2.2.2.2.2.1.1, x1.2.2.2.2.2.2.2.2.2.2.2.2.1.2.1, x1.2.2.2.2.2.2.2.2.2.2.2.2.1.2.2), (x1.2.2.2.2.2.2.2.2.2.2.2.2.2.1.1, x1.2.2.2.2.2.2.2.2.2.2.2.2.2.1.2.1, x1.2.2.2.2.2.2.2.2.2.2.2.2.2.1.2.2), (x1.2.2.2.2.2.2.2.2.2.2.2.2.2.2.1.1, x1.2.2.2.2.2.2.2.2.2.2.2.2.2.2.1.2.1, x1.2.2.2.2.2.2.2.2.2.2.2.2.2.2.1.2.2), (x1.2.2.2.2.2.2.2.2.2.2.2.2.2.2.2.1.1, x1.2.2.2.2.2.2.2.2.2.2.2.2.2.2.2.1.2.1, x1.2.2.2.2.2.2.2.2.2.2.2.2.2.2.2.1.2.2), ()) r10.2.2.1 r10.2.2.2.1 r10.2.2.2.2.1 r10.2.2.2.2.2.1).bind fun r21 =>
  (ferry_Drop (r20.2.1.1, r20.2.1.2.1, r20.2.1.2.2.1, r20.2.1.2.2.2.1, r20.2.1.2.2.2.2.1, r20.2.1.2.2.2.2.2.1, (), ())).bind fun r22 =>
  some ((((r20.2.1.2.2.2.2.2.2.1 : Nat) : Int), true, (r21.1.1, r21.1.2.1, r21.1.2.2.1, r21.1.2.2.2.1, r21.1.2.2.2.2.1, r21.1.2.2.2.2.2.1, r20.2.1.2.2.2.2.2.2.1, ()), ()), ((r22.2.1.1, r22.2.1.2.1, r22.2.1.2.2.1, r22.2.1.2.2.2.1, r22.2.1.2.2.2.2.1, r22.2.1.2.2.2.2.2.1, r22.2.1.2.2.2.2.2.2.1, ()), r10.2.1, r21.2.1, r21.2.2.1, r21.2.2.2.1, r21.2.2.2.2.1, r20.2.2.1, (), r21.2.2.2.2.2.1, r21.2.2.2.2.2.2.1, r21.2.2.2.2.2.2.2.1, r21.2.2.2.2.2.2.2.2.1, r20.2.2.2.2.1, r22.2.2.1, ())))
  else none)
  else
  (bif (decide ((((h0.2.2.2.2.2.2.1 : Nat) : Int) : Int) < h0.2.2.2.1)) then
  some ((((h0.2.2.2.2.2.2.1 : Nat) : Int), false, (0, 0, 0, 0, 0, 0, 0, ()), ()), ((h0.1, h0.2.1, h0.2.2.1, h0.2.2.2.1, h0.2.2.2.2.1, h0.2.2.2.2.2.1, h0.2.2.2.2.2.2.1, ()), r10.2.1, r10.2.2.1, r10.2.2.2.1, r10.2.2.2.2.1, r10.2.2.2.2.2.1, r10.2.2.2.2.2.2.1, (), [], [], [], [], [], h7, ()))
  else
  (ferry_own_3 (x1.2.2.2.2.2.2.2.2.2.2.1, x1.2.2.2.2.2.2.2.2.2.2.2.1, (x1.2.2.2.2.2.2.2.2.2.2.2.2.1.1, x1.2.2.2.2.2.2.2.2.2.2.2.2.1.2.1, x1.2.2.2.2.2.2.2.2.2.2.2.2.1.2.2), (x1.2.2.2.2.2.2.2.2.2.2.2.2.2.1.1, x1.2.2.2.2.2.2.2.2.2.2.2.2.2.1.2.1, x1.2.2.2.2.2.2.2.2.2.2.2.2.2.1.2.2), (x1.2.2.2.2.2.2.2.2.2.2.2.2.2.2.1.1, x1.2.2.2.2.2.2.2.2.2.2.2.2.2.2.1.2.1, x1.2.2.2.2.2.2.2.2.2.2.2.2.2.2.1.2.2), (x1.2.2.2.2.2.2.2.2.2.2.2.2.2.2.2.1.1, x1.2.2.2.2.2.2.2.2.2.2.2.2.2.2.2.1.2.1, x1.2.2.2.2.2.2.2.2.2.2.2.2.2.2.2.1.2.2), ()) r10.2.2.1 r10.2.2.2.1 r10.2.2.2.2.1 r10.2.2.2.2.2.1).bind fun r23 =>
  (ferry_Drop (h0.1, h0.2.1, h0.2.2.1, h0.2.2.2.1, h0.2.2.2.2.1, h0.2.2.2.2.2.1, (), ())).bind fun r24 =>
  some ((((h0.2.2.2.2.2.2.1 : Nat) : Int), true, (r23.1.1, r23.1.2.1, r23.1.2.2.1, r23.1.2.2.2.1, r23.1.2.2.2.2.1, r23.1.2.2.2.2.2.1, h0.2.2.2.2.2.2.1, ()), ()), ((r24.2.1.1, r24.2.1.2.1, r24.2.1.2.2.1, r24.2.1.2.2.2.1, r24.2.1.2.2.2.2.1, r24.2.1.2.2.2.2.2.1, r24.2.1.2.2.2.2.2.2.1, ()), r10.2.1, r23.2.1, r23.2.2.1, r23.2.2.2.1, r23.2.2.2.2.1, r10.2.2.2.2.2.2.1, (), r23.2.2.2.2.2.1, r23.2.2.2.2.2.2.1, r23.2.2.2.2.2.2.2.1, r23.2.2.2.2.2.2.2.2.1, h7, r24.2.2.1, ()))))))))
def ferry_Take_2_ce : CEp where
  f := 22
  args := [.one (.ptr 0 0), .agg [.int .u8, .int .i64, .int .i64, .int .i64, .int .i64, .int .i64, .int .i64, .int .i64, .bool, .gv 1 28 3, .int .i64, .int .i64, .as 0 2, .as 0 3, .as 0 4, .as 0 5, .int .i64, .int .i64, .int .i64, .as 1 6]]
  hs := [.obj 56 [.int .i64, .int .i64, .int .i64, .int .i64, .bool, .bool, .asz 1 7], .gen 8 true, .arr 3 0 true, .arr 3 0 true, .arr 3 0 true, .arr 3 0 true, .arr 5 1 true, .arr 5 1 false]
  res := .tup [.one (.int .i64), .one (.bool), .agg [.int .i64, .int .i64, .asz 0 8, .asz 0 9, .asz 0 10, .asz 0 11, .asz 1 12]]
  outs := [.obj 56 [.int .i64, .int .i64, .int .i64, .int .i64, .bool, .bool, .asz 1 13], .gen 8 true, .arr 3 0 true, .arr 3 0 true, .arr 3 0 true, .arr 3 0 true, .arr 5 1 true, .dead, .arr 3 0 false, .arr 3 0 false, .arr 3 0 false, .arr 3 0 false, .arr 5 1 false, .arr 5 1 false]
  m := fun d dh => ferry_Take_2 d.2.1 dh.1 dh.2.1 dh.2.2.1 dh.2.2.2.1 dh.2.2.2.2.1 dh.2.2.2.2.2.1 dh.2.2.2.2.2.2.1 dh.2.2.2.2.2.2.2.1
  ok := ce_ok mixedP Try.func22 (by kernel_rfl) (orcOf_ok ferry_Take_2_tb) (dr := ferry_Take_2_dr) (lps := lpsOf lt0) (lps_fn (no_loop (by kernel_rfl))) (fun d dh => by kernel_rfl)

def w13_Take_dr : Nat → Nat → DrA
  | 3, _ => ⟨(List.range 9 ++ [10, 9, 11, 12, 13, 14, 15, 16, 17, 19, 20, 18, 21, 22, 23, 24, 25, 26, 27, 29, 30, 28, 31, 32, 33, 34, 35, 36, 37, 39, 38, 40, 41, 42]), [[], [0], [0, 1], [0, 1, 2], [0, 1, 2, 3], (List.range 5), (List.range 6), (List.range 7), (List.range 8), (List.range 9), (List.range 6), (List.range 6 ++ [10]), (List.range 12), (List.range 13), (List.range 14), (List.range 15), (List.range 16), (List.range 17), (List.range 18), (List.range 15), (List.range 15 ++ [19]), (List.range 15 ++ [19, 20]), (List.range 22), (List.range 23), (List.range 24), (List.range 25), (List.range 26), (List.range 27), (List.range 28), (List.range 25), (List.range 25 ++ [29]), (List.range 25 ++ [29, 30]), (List.range 32), (List.range 33), (List.range 34), (List.range 35), (List.range 36), (List.range 37), (List.range 38), (List.range 35), (List.range 35 ++ [39]), (List.range 41), (List.range 42)], [], [], [], false, []⟩
  | 8, _ => ⟨(List.range 7 ++ [8, 9, 10, 7, 11, 12, 13, 14]), [[], [], [1], [1, 2], [0, 1, 2, 3], (List.range 5), (List.range 6), (List.range 7), (List.range 6), (List.range 6 ++ [8]), (List.range 6 ++ [8, 9]), (List.range 6 ++ [8, 9, 10]), (List.range 6 ++ [8, 9, 10, 11]), (List.range 13), (List.range 14)], [], [], [], false, []⟩
  | 10, _ => ⟨[0, 2, 4, 5, 6, 1, 3, 7, 8, 9], [[], [0], [], [0, 1, 2], [], [4], [4, 5], [4, 5, 6], [4, 5, 6, 7], (List.range 9)], [], [], [], false, []⟩
  | 11, _ => ⟨[0, 1, 2, 3, 5, 7, 4, 6, 8, 9, 10, 11, 12, 13, 14], [[], [], [1], [1, 2], [1, 2, 3], [], [5], [], [5, 6, 7], [5, 6, 7, 8], [5, 6, 7, 8, 9], [1, 2, 3, 4, 5, 6, 7, 8, 9, 10], (List.range 12), (List.range 13), (List.range 14)], [], [], [], false, []⟩
  | 12, _ => ⟨[0, 1, 2, 5, 6, 7, 3, 4, 8, 9], [[], [0], [0, 1], [0, 1, 2], [0, 1, 2, 3], [], [5], [5, 6], [5, 6, 7], (List.range 9)], [], [], [], false, []⟩
  | 14, _ => ⟨[0, 3, 4, 5, 1, 6, 2, 7, 8, 9], [[], [0], [0, 1], [], [3], [3, 4], [3, 4, 5], (List.range 7), [], (List.range 9)], [6], [2], [0], false, []⟩
  | 16, _ => ⟨[0, 1, 3, 4, 2, 5], [[], [0], [], [0, 1], [0, 1, 3], (List.range 5)], [], [], [], false, []⟩
  | _, _ => ⟨[], [], [], [], [], false, []⟩
def w13_Take_tb : List (CEp) := [wk_CopyBase_ce, w13_Drop_ce]
def w13_Take_l1 (a : (Unit × Unit × Unit × Int × Unit) × ((Bool × Int × Int × Int × Int × LB × Unit) × (DLetter) × (Int × Int × LI × LI × LI × LI × LB × Unit) × Unit × Unit × Unit × Unit × Unit × Unit × Unit)) : Option (((Unit × Unit × Unit × Int × Unit) × ((Bool × Int × Int × Int × Int × LB × Unit) × (DLetter) × (Int × Int × LI × LI × LI × LI × LB × Unit) × Unit × Unit × Unit × Unit × Unit × Unit × Unit)) ⊕ (((Unit × Unit × Unit × Unit) × ((Bool × Int × Int × Int × Int × LB × Unit) × (DLetter) × (Int × Int × LI × LI × LI × LI × LB × Unit) × Unit × Unit × Unit × Unit × Unit × Unit × Unit × Unit × Unit × Unit × Unit × Unit × Unit)))) :=
  (bif (decide ((a.1.2.2.2.1 : Int) < (a.2.2.1.bytes.length : Int))) then
  (bif (decide ((a.2.2.1.at_ : Int) ≤ (a.2.1.2.2.2.2.2.1.length : Int))) then
  (bif (decide (((IntKind.i64.wrap (a.2.2.1.at_ + a.1.2.2.2.1)) : Int) = (a.2.1.2.2.2.2.2.1.length : Int))) then
  (getI a.2.2.1.bytes a.1.2.2.2.1).bind fun e1 =>
  (b8 (e1.toNat : Int)).bind fun u2 =>
  (if a.2.1.2.2.2.2.2.1.length + ([u2] : LB).length ≤ 140737488355328 ∧ (a.2.1.2.2.2.2.2.1.length + ([u2] : LB).length) * 1 ≤ 140737488355328 then
  some (.inl (((), (), (), (IntKind.i64.wrap (a.1.2.2.2.1 + 1)), ()), ((a.2.1.1, a.2.1.2.1, a.2.1.2.2.1, a.2.1.2.2.2.1, a.2.1.2.2.2.2.1, (a.2.1.2.2.2.2.2.1 ++ ([u2] : LB)), ()), a.2.2.1, (a.2.2.2.1.1, a.2.2.2.1.2.1, a.2.2.2.1.2.2.1, a.2.2.2.1.2.2.2.1, a.2.2.2.1.2.2.2.2.1, a.2.2.2.1.2.2.2.2.2.1, a.2.2.2.1.2.2.2.2.2.2.1, ()), (), (), (), (), (), (), ())))
  else none)
  else
  some (.inl (((), (), (), (IntKind.i64.wrap (a.1.2.2.2.1 + 1)), ()), ((a.2.1.1, a.2.1.2.1, a.2.1.2.2.1, a.2.1.2.2.2.1, a.2.1.2.2.2.2.1, a.2.1.2.2.2.2.2.1, ()), a.2.2.1, (a.2.2.2.1.1, a.2.2.2.1.2.1, a.2.2.2.1.2.2.1, a.2.2.2.1.2.2.2.1, a.2.2.2.1.2.2.2.2.1, a.2.2.2.1.2.2.2.2.2.1, a.2.2.2.1.2.2.2.2.2.2.1, ()), (), (), (), (), (), (), ()))))
  else
  some (.inr (((), (), (), ()), ((a.2.1.1, a.2.1.2.1, a.2.1.2.2.1, a.2.1.2.2.2.1, a.2.1.2.2.2.2.1, a.2.1.2.2.2.2.2.1, ()), a.2.2.1, (a.2.2.2.1.1, a.2.2.2.1.2.1, a.2.2.2.1.2.2.1, a.2.2.2.1.2.2.2.1, a.2.2.2.1.2.2.2.2.1, a.2.2.2.1.2.2.2.2.2.1, a.2.2.2.1.2.2.2.2.2.2.1, ()), (), (), (), (), (), (), (), (), (), (), (), (), ()))))
  else
  some (.inr (((), (), (), ()), ((a.2.1.1, a.2.1.2.1, a.2.1.2.2.1, a.2.1.2.2.2.1, a.2.1.2.2.2.2.1, a.2.1.2.2.2.2.2.1, ()), a.2.2.1, (a.2.2.2.1.1, a.2.2.2.1.2.1, a.2.2.2.1.2.2.1, a.2.2.2.1.2.2.2.1, a.2.2.2.1.2.2.2.2.1, a.2.2.2.1.2.2.2.2.2.1, a.2.2.2.1.2.2.2.2.2.2.1, ()), (), (), (), (), (), (), (), (), (), (), (), (), ()))))
def w13_Take_e1 : LEp := ⟨8, [0, 3, 6, 7], [.one (.ptr 0 0), .one (.ptr 1 0), .one (.ptr 2 0), .one (.int .i64)], [.obj 73 [.bool, .int .i64, .int .i64, .int .i64, .int .i64, .own 1 3], .cobj 31 20, .obj 33 [.int .i64, .int .i64, .own 0 4, .own 0 5, .own 0 6, .own 0 7, .own 1 8], .row 5 1, .row 3 1, .row 3 1, .row 3 1, .row 3 1, .row 5 1], [⟨.exit 0, [0, 3, 6], [.one (.ptr 0 0), .one (.ptr 1 0), .one (.ptr 2 0)], [.obj 73 [.bool, .int .i64, .int .i64, .int .i64, .int .i64, .own 1 9], .cobj 31 20, .obj 33 [.int .i64, .int .i64, .own 0 10, .own 0 11, .own 0 12, .own 0 13, .own 1 14], .dead, .dead, .dead, .dead, .dead, .dead, .row 5 1, .row 3 1, .row 3 1, .row 3 1, .row 3 1, .row 5 1]⟩], w13_Take_l1⟩
def w13_Take_lt : List (LEp) := [w13_Take_e1]
theorem w13_Take_e1_ok : LeOk w13_Take_e1 (nthL (bodyOf Try.f23) 0) := fun A env h k z hk => le_ok (E := w13_Take_e1) (orcOf_ok w13_Take_tb) (dr := w13_Take_dr) (lps := lpsOf w13_Take_lt) (no_loop (by kernel_rfl)) (fun a => by kernel_rfl) env h k z hk
def w13_Take (x1 : DLetter) (h0 : Bool × Int × Int × Int × Int × LB × Unit) : Option ((Int × Bool × (DImage) × Unit) × ((Bool × Int × Int × Int × Int × LB × Unit) × Unit × Unit × Unit)) :=
  (bif (decide ((x1.kind : Int) ≠ 5)) then
  some ((0, false, (⟨(⟨0, 0, (⟨[], [], [], []⟩ : DConfig)⟩ : DBase), []⟩ : DImage), ()), ((h0.1, h0.2.1, h0.2.2.1, h0.2.2.2.1, h0.2.2.2.2.1, h0.2.2.2.2.2.1, ()), (), (), ()))
  else
  (bif (decide ((x1.size : Int) < 0)) then
  some ((0, false, (⟨(⟨0, 0, (⟨[], [], [], []⟩ : DConfig)⟩ : DBase), []⟩ : DImage), ()), ((h0.1, h0.2.1, h0.2.2.1, h0.2.2.2.1, h0.2.2.2.2.1, h0.2.2.2.2.2.1, ()), (), (), ()))
  else
  (bif (decide ((131072 : Int) < x1.size)) then
  some ((0, false, (⟨(⟨0, 0, (⟨[], [], [], []⟩ : DConfig)⟩ : DBase), []⟩ : DImage), ()), ((h0.1, h0.2.1, h0.2.2.1, h0.2.2.2.1, h0.2.2.2.2.1, h0.2.2.2.2.2.1, ()), (), (), ()))
  else
  (bif (decide ((x1.at_ : Int) < 0)) then
  some ((0, false, (⟨(⟨0, 0, (⟨[], [], [], []⟩ : DConfig)⟩ : DBase), []⟩ : DImage), ()), ((h0.1, h0.2.1, h0.2.2.1, h0.2.2.2.1, h0.2.2.2.2.1, h0.2.2.2.2.2.1, ()), (), (), ()))
  else
  (bif (decide ((x1.size : Int) < x1.at_)) then
  some ((0, false, (⟨(⟨0, 0, (⟨[], [], [], []⟩ : DConfig)⟩ : DBase), []⟩ : DImage), ()), ((h0.1, h0.2.1, h0.2.2.1, h0.2.2.2.1, h0.2.2.2.2.1, h0.2.2.2.2.2.1, ()), (), (), ()))
  else
  (bif (decide (((IntKind.i64.wrap (x1.size - x1.at_)) : Int) < (x1.bytes.length : Int))) then
  some ((0, false, (⟨(⟨0, 0, (⟨[], [], [], []⟩ : DConfig)⟩ : DBase), []⟩ : DImage), ()), ((h0.1, h0.2.1, h0.2.2.1, h0.2.2.2.1, h0.2.2.2.2.1, h0.2.2.2.2.2.1, ()), (), (), ()))
  else
  (bif (!h0.1) then
  (bif (decide ((x1.at_ : Int) ≠ 0)) then
  some ((0, false, (⟨(⟨0, 0, (⟨[], [], [], []⟩ : DConfig)⟩ : DBase), []⟩ : DImage), ()), ((h0.1, h0.2.1, h0.2.2.1, h0.2.2.2.1, h0.2.2.2.2.1, h0.2.2.2.2.2.1, ()), (), (), ()))
  else
  (loopM w13_Take_l1 (((), (), (), 0, ()), ((true, x1.term_, x1.base.index, x1.base.term_, x1.size, [], ()), x1, (0, 0, [], [], [], [], [], ()), (), (), (), (), (), (), ()))).bind fun b1 =>
  (bif (decide (((b1.2.1.2.2.2.2.2.1.length : Int) : Int) < b1.2.1.2.2.2.2.1)) then
  some (((b1.2.1.2.2.2.2.2.1.length : Int), false, (⟨(⟨0, 0, (⟨[], [], [], []⟩ : DConfig)⟩ : DBase), []⟩ : DImage), ()), ((b1.2.1.1, b1.2.1.2.1, b1.2.1.2.2.1, b1.2.1.2.2.2.1, b1.2.1.2.2.2.2.1, b1.2.1.2.2.2.2.2.1, ()), (), (), ()))
  else
  (wk_CopyBase b1.2.2.1.base).bind fun r2 =>
  (w13_Drop (b1.2.1.1, b1.2.1.2.1, b1.2.1.2.2.1, b1.2.1.2.2.2.1, b1.2.1.2.2.2.2.1, b1.2.1.2.2.2.2.2.1, ())).bind fun r3 =>
  some ((b1.2.2.1.size, true, (⟨r2.1, b1.2.1.2.2.2.2.2.1⟩ : DImage), ()), ((r3.2.1.1, r3.2.1.2.1, r3.2.1.2.2.1, r3.2.1.2.2.2.1, r3.2.1.2.2.2.2.1, r3.2.1.2.2.2.2.2.1, ()), (), (), ()))))
  else
  (bif (decide ((h0.2.1 : Int) ≠ x1.term_)) then
  (bif (decide ((x1.at_ : Int) ≠ 0)) then
  some ((0, false, (⟨(⟨0, 0, (⟨[], [], [], []⟩ : DConfig)⟩ : DBase), []⟩ : DImage), ()), ((h0.1, h0.2.1, h0.2.2.1, h0.2.2.2.1, h0.2.2.2.2.1, h0.2.2.2.2.2.1, ()), (), (), ()))
  else
  (loopM w13_Take_l1 (((), (), (), 0, ()), ((true, x1.term_, x1.base.index, x1.base.term_, x1.size, [], ()), x1, (0, 0, [], [], [], [], [], ()), (), (), (), (), (), (), ()))).bind fun b4 =>
  (bif (decide (((b4.2.1.2.2.2.2.2.1.length : Int) : Int) < b4.2.1.2.2.2.2.1)) then
  some (((b4.2.1.2.2.2.2.2.1.length : Int), false, (⟨(⟨0, 0, (⟨[], [], [], []⟩ : DConfig)⟩ : DBase), []⟩ : DImage), ()), ((b4.2.1.1, b4.2.1.2.1, b4.2.1.2.2.1, b4.2.1.2.2.2.1, b4.2.1.2.2.2.2.1, b4.2.1.2.2.2.2.2.1, ()), (), (), ()))
  else
  (wk_CopyBase b4.2.2.1.base).bind fun r5 =>
  (w13_Drop (b4.2.1.1, b4.2.1.2.1, b4.2.1.2.2.1, b4.2.1.2.2.2.1, b4.2.1.2.2.2.2.1, b4.2.1.2.2.2.2.2.1, ())).bind fun r6 =>
  some ((b4.2.2.1.size, true, (⟨r5.1, b4.2.1.2.2.2.2.2.1⟩ : DImage), ()), ((r6.2.1.1, r6.2.1.2.1, r6.2.1.2.2.1, r6.2.1.2.2.2.1, r6.2.1.2.2.2.2.1, r6.2.1.2.2.2.2.2.1, ()), (), (), ()))))
  else
  (bif (decide ((h0.2.2.1 : Int) ≠ x1.base.index)) then
  (bif (decide ((x1.at_ : Int) ≠ 0)) then
  some ((0, false, (⟨(⟨0, 0, (⟨[], [], [], []⟩ : DConfig)⟩ : DBase), []⟩ : DImage), ()), ((h0.1, h0.2.1, h0.2.2.1, h0.2.2.2.1, h0.2.2.2.2.1, h0.2.2.2.2.2.1, ()), (), (), ()))
  else
  (loopM w13_Take_l1 (((), (), (), 0, ()), ((true, x1.term_, x1.base.index, x1.base.term_, x1.size, [], ()), x1, (0, 0, [], [], [], [], [], ()), (), (), (), (), (), (), ()))).bind fun b7 =>
  (bif (decide (((b7.2.1.2.2.2.2.2.1.length : Int) : Int) < b7.2.1.2.2.2.2.1)) then
  some (((b7.2.1.2.2.2.2.2.1.length : Int), false, (⟨(⟨0, 0, (⟨[], [], [], []⟩ : DConfig)⟩ : DBase), []⟩ : DImage), ()), ((b7.2.1.1, b7.2.1.2.1, b7.2.1.2.2.1, b7.2.1.2.2.2.1, b7.2.1.2.2.2.2.1, b7.2.1.2.2.2.2.2.1, ()), (), (), ()))
  else
  (wk_CopyBase b7.2.2.1.base).bind fun r8 =>
  (w13_Drop (b7.2.1.1, b7.2.1.2.1, b7.2.1.2.2.1, b7.2.1.2.2.2.1, b7.2.1.2.2.2.2.1, b7.2.1.2.2.2.2.2.1, ())).bind fun r9 =>
  some ((b7.2.2.1.size, true, (⟨r8.1, b7.2.1.2.2.2.2.2.1⟩ : DImage), ()), ((r9.2.1.1, r9.2.1.2.1, r9.2.1.2.2.1, r9.2.1.2.2.2.1, r9.2.1.2.2.2.2.1, r9.2.1.2.2.2.2.2.1, ()), (), (), ()))))
  else
  (bif (decide ((h0.2.2.2.1 : Int) ≠ x1.base.term_)) then
  (bif (decide ((x1.at_ : Int) ≠ 0)) then
  some ((0, false, (⟨(⟨0, 0, (⟨[], [], [], []⟩ : DConfig)⟩ : DBase), []⟩ : DImage), ()), ((h0.1, h0.2.1, h0.2.2.1, h0.2.2.2.1, h0.2.2.2.2.1, h0.2.2.2.2.2.1, ()), (), (), ()))
  else
  (loopM w13_Take_l1 (((), (), (), 0, ()), ((true, x1.term_, x1.base.index, x1.base.term_, x1.size, [], ()), x1, (0, 0, [], [], [], [], [], ()), (), (), (), (), (), (), ()))).bind fun b10 =>
  (bif (decide (((b10.2.1.2.2.2.2.2.1.length : Int) : Int) < b10.2.1.2.2.2.2.1)) then
  some (((b10.2.1.2.2.2.2.2.1.length : Int), false, (⟨(⟨0, 0, (⟨[], [], [], []⟩ : DConfig)⟩ : DBase), []⟩ : DImage), ()), ((b10.2.1.1, b10.2.1.2.1, b10.2.1.2.2.1, b10.2.1.2.2.2.1, b10.2.1.2.2.2.2.1, b10.2.1.2.2.2.2.2.1, ()), (), (), ()))
  else
  (wk_CopyBase b10.2.2.1.base).bind fun r11 =>
  (w13_Drop (b10.2.1.1, b10.2.1.2.1, b10.2.1.2.2.1, b10.2.1.2.2.2.1, b10.2.1.2.2.2.2.1, b10.2.1.2.2.2.2.2.1, ())).bind fun r12 =>
  some ((b10.2.2.1.size, true, (⟨r11.1, b10.2.1.2.2.2.2.2.1⟩ : DImage), ()), ((r12.2.1.1, r12.2.1.2.1, r12.2.1.2.2.1, r12.2.1.2.2.2.1, r12.2.1.2.2.2.2.1, r12.2.1.2.2.2.2.2.1, ()), (), (), ()))))
  else
  (bif (decide ((h0.2.2.2.2.1 : Int) ≠ x1.size)) then
  (bif (decide ((x1.at_ : Int) ≠ 0)) then
  some ((0, false, (⟨(⟨0, 0, (⟨[], [], [], []⟩ : DConfig)⟩ : DBase), []⟩ : DImage), ()), ((h0.1, h0.2.1, h0.2.2.1, h0.2.2.2.1, h0.2.2.2.2.1, h0.2.2.2.2.2.1, ()), (), (), ()))
  else
  (loopM w13_Take_l1 (((), (), (), 0, ()), ((true, x1.term_, x1.base.index, x1.base.term_, x1.size, [], ()), x1, (0, 0, [], [], [], [], [], ()), (), (), (), (), (), (), ()))).bind fun b13 =>
  (bif (decide (((b13.2.1.2.2.2.2.2.1.length : Int) : Int) < b13.2.1.2.2.2.2.1)) then
  some (((b13.2.1.2.2.2.2.2.1.length : Int), false, (⟨(⟨0, 0, (⟨[], [], [], []⟩ : DConfig)⟩ : DBase), []⟩ : DImage), ()), ((b13.2.1.1, b13.2.1.2.1, b13.2.1.2.2.1, b13.2.1.2.2.2.1, b13.2.1.2.2.2.2.1, b13.2.1.2.2.2.2.2.1, ()), (), (), ()))
  else
  (wk_CopyBase b13.2.2.1.base).bind fun r14 =>
  (w13_Drop (b13.2.1.1, b13.2.1.2.1, b13.2.1.2.2.1, b13.2.1.2.2.2.1, b13.2.1.2.2.2.2.1, b13.2.1.2.2.2.2.2.1, ())).bind fun r15 =>
  some ((b13.2.2.1.size, true, (⟨r14.1, b13.2.1.2.2.2.2.2.1⟩ : DImage), ()), ((r15.2.1.1, r15.2.1.2.1, r15.2.1.2.2.1, r15.2.1.2.2.2.1, r15.2.1.2.2.2.2.1, r15.2.1.2.2.2.2.2.1, ()), (), (), ()))))
  else
  (loopM w13_Take_l1 (((), (), (), 0, ()), ((h0.1, h0.2.1, h0.2.2.1, h0.2.2.2.1, h0.2.2.2.2.1, h0.2.2.2.2.2.1, ()), x1, (0, 0, [], [], [], [], [], ()), (), (), (), (), (), (), ()))).bind fun b16 =>
  (bif (decide (((b16.2.1.2.2.2.2.2.1.length : Int) : Int) < b16.2.1.2.2.2.2.1)) then
  some (((b16.2.1.2.2.2.2.2.1.length : Int), false, (⟨(⟨0, 0, (⟨[], [], [], []⟩ : DConfig)⟩ : DBase), []⟩ : DImage), ()), ((b16.2.1.1, b16.2.1.2.1, b16.2.1.2.2.1, b16.2.1.2.2.2.1, b16.2.1.2.2.2.2.1, b16.2.1.2.2.2.2.2.1, ()), (), (), ()))
  else
  (wk_CopyBase b16.2.2.1.base).bind fun r17 =>
  (w13_Drop (b16.2.1.1, b16.2.1.2.1, b16.2.1.2.2.1, b16.2.1.2.2.2.1, b16.2.1.2.2.2.2.1, b16.2.1.2.2.2.2.2.1, ())).bind fun r18 =>
  some ((b16.2.2.1.size, true, (⟨r17.1, b16.2.1.2.2.2.2.2.1⟩ : DImage), ()), ((r18.2.1.1, r18.2.1.2.1, r18.2.1.2.2.1, r18.2.1.2.2.2.1, r18.2.1.2.2.2.2.1, r18.2.1.2.2.2.2.2.1, ()), (), (), ()))))))))))))))
def w13_Take_ce : CEp where
  f := 23
  args := [.one (.ptr 0 0), .cod 20]
  hs := [.obj 73 [.bool, .int .i64, .int .i64, .int .i64, .int .i64, .own 1 1], .row 5 1]
  res := .tup [.one (.int .i64), .one (.bool), .cod 16]
  outs := [.obj 73 [.bool, .int .i64, .int .i64, .int .i64, .int .i64, .own 1 2], .dead, .row 5 1]
  m := fun d dh => w13_Take d.2.1 dh.1
  ok := ce_ok mixedP Try.func23 (by kernel_rfl) (orcOf_ok w13_Take_tb) (dr := w13_Take_dr) (lps := lpsOf w13_Take_lt) (lps_fn (lps_of (n := 1) (by kernel_rfl) fun i hi => match i, hi with | 0, _ => lp_ok (E := w13_Take_e1) (by kernel_rfl) w13_Take_e1_ok)) (fun d dh => by kernel_rfl)

def wk_SameImage_3_tb : List (CEp) := [wk_SameBase_2_ce, wk_SameBytes_3_ce]
def wk_SameImage_3 (x0 : Int × Int × Nat × Nat × Nat × Nat × Nat × Unit) (x1 : DImage) (h0 : LI) (h1 : LI) (h2 : LI) (h3 : LI) (h4 : LB) : Option (Bool × (LI × LI × LI × LI × LB × Unit)) :=
  (wk_SameBase_2 (x0.1, x0.2.1, x0.2.2.1, x0.2.2.2.1, x0.2.2.2.2.1, x0.2.2.2.2.2.1, ()) x1.base h0 h1 h2 h3).bind fun r1 =>
  (bif r1.1 then
  (wk_SameBytes_3 x0.2.2.2.2.2.2.1 x1.bytes h4).bind fun r2 =>
  some (r2.1, (r1.2.1, r1.2.2.1, r1.2.2.2.1, r1.2.2.2.2.1, r2.2.1, ()))
  else
  some (false, (r1.2.1, r1.2.2.1, r1.2.2.2.1, r1.2.2.2.2.1, h4, ())))
def wk_SameImage_3_ce : CEp where
  f := 24
  args := [.agg [.int .i64, .int .i64, .asz 0 0, .asz 0 1, .asz 0 2, .asz 0 3, .asz 1 4], .cod 16]
  hs := [.arr 3 0 true, .arr 3 0 true, .arr 3 0 true, .arr 3 0 true, .arr 5 1 true]
  res := .val (.one (.bool))
  outs := [.arr 3 0 true, .arr 3 0 true, .arr 3 0 true, .arr 3 0 true, .arr 5 1 true]
  m := fun d dh => wk_SameImage_3 d.1 d.2.1 dh.1 dh.2.1 dh.2.2.1 dh.2.2.2.1 dh.2.2.2.2.1
  ok := ceO Try.func24 (by kernel_rfl) wk_SameImage_3_tb (by kernel_rfl) fun d dh => by kernel_rfl

def wk_OverBytes_2_tb : List (CEp) := [wk_markByte_ce]
def wk_OverBytes_2_l1 (a : ((Nat × Nat × Nat × Nat × Unit) × Int × Unit) × ((List (DEntryX)) × Unit)) : Option ((((Nat × Nat × Nat × Nat × Unit) × Int × Unit) × ((List (DEntryX)) × Unit)) ⊕ ((Unit × ((List (DEntryX)) × Unit)))) :=
  (bif (decide ((a.1.2.1 : Int) < ((a.1.1.2.2.1 : Nat) : Int))) then
  (wk_markByte 2 a.1.2.1).bind fun r1 =>
  (if 0 ≤ (a.1.2.1 : Int) ∧ (a.1.2.1 : Int) < ((a.1.1.2.2.1 : Nat) : Int) then
  (a.2.1[a.1.1.1]?).bind fun e2 =>
  (if (a.1.1.2.1 + (a.1.2.1 : Int).toNat) < (e2.command.1 ++ e2.command.2).length then
  (b8 r1.1).bind fun u3 =>
  some (.inl (((a.1.1.1, a.1.1.2.1, a.1.1.2.2.1, a.1.1.2.2.2.1, ()), (IntKind.i64.wrap (a.1.2.1 + 1)), ()), ((a.2.1.set a.1.1.1 (⟨e2.term_, e2.kind, ((((e2.command.1 ++ e2.command.2).set (a.1.1.2.1 + (a.1.2.1 : Int).toNat) u3).take e2.command.1.length), (((e2.command.1 ++ e2.command.2).set (a.1.1.2.1 + (a.1.2.1 : Int).toNat) u3).drop e2.command.1.length)), (⟨e2.config.voters, e2.config.old, e2.config.learners, e2.config.want⟩ : DConfigX)⟩ : DEntryX)), ())))
  else none)
  else none)
  else
  some (.inr ((), (a.2.1, ()))))
def wk_OverBytes_2_e1 : LEp := ⟨2, [2, 3], [.one (.gv 0 542 4), .one (.int .i64)], [.gen 8 true], [⟨.exit 0, [], [], [.gen 8 true]⟩], wk_OverBytes_2_l1⟩
def wk_OverBytes_2_lt : List (LEp) := [wk_OverBytes_2_e1]
theorem wk_OverBytes_2_e1_ok : LeOk wk_OverBytes_2_e1 (nthL (bodyOf Try.f42) 0) := fun A env h k z hk => le_ok (E := wk_OverBytes_2_e1) (orcOfX_ok HK0 wk_OverBytes_2_tb) (dr := dr0) (lps := lpsOf wk_OverBytes_2_lt) (no_loop (by kernel_rfl)) (fun a => by kernel_rfl) env h k z hk
def wk_OverBytes_2 (x0 : Nat × Nat × Nat × Nat × Unit) (h0 : List (DEntryX)) : Option (Unit × ((List (DEntryX)) × Unit)) :=
  let y1 : Int := (if ((IntKind.i64.wrap (((x0.2.2.1 : Nat) : Int) + 12)) : Int) < ((x0.2.2.2.1 : Nat) : Int) then (IntKind.i64.wrap (((x0.2.2.1 : Nat) : Int) + 12)) else ((x0.2.2.2.1 : Nat) : Int))
  (if 0 ≤ (0 : Int) ∧ (0 : Int) ≤ (y1 : Int) ∧ (y1 : Int) ≤ ((x0.2.2.2.1 : Nat) : Int) ∧ ((0 : Int) = 0 ∨ (0 : Int) < ((x0.2.2.2.1 : Nat) : Int)) then
  (loopM wk_OverBytes_2_l1 (((x0.1, (x0.2.1 + (0 : Int).toNat), ((y1 : Int).toNat - (0 : Int).toNat), (x0.2.2.2.1 - (0 : Int).toNat), ()), 0, ()), (h0, ()))).bind fun b2 =>
  some ((), (b2.2.1, ()))
  else none)
def wk_OverBytes_2_ce : CEp where
  f := 42
  args := [.one (.gv 0 542 4)]
  hs := [.gen 8 true]
  res := .tup []
  outs := [.gen 8 true]
  m := fun d dh => wk_OverBytes_2 d.1 dh.1
  ok := ce_ok mixedP Try.func42 (by kernel_rfl) (orcOfX_ok HK0 wk_OverBytes_2_tb) (dr := dr0) (lps := lpsOf wk_OverBytes_2_lt) (lps_fn (lps_of (n := 1) (by kernel_rfl) fun i hi => match i, hi with | 0, _ => lp_ok (E := wk_OverBytes_2_e1) (by kernel_rfl) wk_OverBytes_2_e1_ok)) (fun d dh => by kernel_rfl)

def wk_OverInts_2_tb : List (CEp) := [wk_mark_ce]
def wk_OverInts_2_l1 (a : ((Nat × Nat × Nat × Nat × Unit) × Int × Unit) × ((List (DEntryX)) × Unit)) : Option ((((Nat × Nat × Nat × Nat × Unit) × Int × Unit) × ((List (DEntryX)) × Unit)) ⊕ ((Unit × ((List (DEntryX)) × Unit)))) :=
  (bif (decide ((a.1.2.1 : Int) < ((a.1.1.2.2.1 : Nat) : Int))) then
  (wk_mark 2 a.1.2.1).bind fun r1 =>
  (if 0 ≤ (a.1.2.1 : Int) ∧ (a.1.2.1 : Int) < ((a.1.1.2.2.1 : Nat) : Int) then
  (a.2.1[a.1.1.1]?).bind fun e2 =>
  (if (a.1.1.2.1 + (a.1.2.1 : Int).toNat) < (e2.config.voters.1 ++ e2.config.voters.2).length then
  some (.inl (((a.1.1.1, a.1.1.2.1, a.1.1.2.2.1, a.1.1.2.2.2.1, ()), (IntKind.i64.wrap (a.1.2.1 + 1)), ()), ((a.2.1.set a.1.1.1 (⟨e2.term_, e2.kind, e2.command, (⟨((((e2.config.voters.1 ++ e2.config.voters.2).set (a.1.1.2.1 + (a.1.2.1 : Int).toNat) r1.1).take e2.config.voters.1.length), (((e2.config.voters.1 ++ e2.config.voters.2).set (a.1.1.2.1 + (a.1.2.1 : Int).toNat) r1.1).drop e2.config.voters.1.length)), e2.config.old, e2.config.learners, e2.config.want⟩ : DConfigX)⟩ : DEntryX)), ())))
  else none)
  else none)
  else
  some (.inr ((), (a.2.1, ()))))
def wk_OverInts_2_e1 : LEp := ⟨2, [2, 3], [.one (.gv 0 798 4), .one (.int .i64)], [.gen 8 true], [⟨.exit 0, [], [], [.gen 8 true]⟩], wk_OverInts_2_l1⟩
def wk_OverInts_2_lt : List (LEp) := [wk_OverInts_2_e1]
theorem wk_OverInts_2_e1_ok : LeOk wk_OverInts_2_e1 (nthL (bodyOf Try.f69) 0) := fun A env h k z hk => le_ok (E := wk_OverInts_2_e1) (orcOfX_ok HK0 wk_OverInts_2_tb) (dr := dr0) (lps := lpsOf wk_OverInts_2_lt) (no_loop (by kernel_rfl)) (fun a => by kernel_rfl) env h k z hk
def wk_OverInts_2 (x0 : Nat × Nat × Nat × Nat × Unit) (h0 : List (DEntryX)) : Option (Unit × ((List (DEntryX)) × Unit)) :=
  let y1 : Int := (if ((IntKind.i64.wrap (((x0.2.2.1 : Nat) : Int) + 12)) : Int) < ((x0.2.2.2.1 : Nat) : Int) then (IntKind.i64.wrap (((x0.2.2.1 : Nat) : Int) + 12)) else ((x0.2.2.2.1 : Nat) : Int))
  (if 0 ≤ (0 : Int) ∧ (0 : Int) ≤ (y1 : Int) ∧ (y1 : Int) ≤ ((x0.2.2.2.1 : Nat) : Int) ∧ ((0 : Int) = 0 ∨ (0 : Int) < ((x0.2.2.2.1 : Nat) : Int)) then
  (loopM wk_OverInts_2_l1 (((x0.1, (x0.2.1 + (0 : Int).toNat), ((y1 : Int).toNat - (0 : Int).toNat), (x0.2.2.2.1 - (0 : Int).toNat), ()), 0, ()), (h0, ()))).bind fun b2 =>
  some ((), (b2.2.1, ()))
  else none)
def wk_OverInts_2_ce : CEp where
  f := 69
  args := [.one (.gv 0 798 4)]
  hs := [.gen 8 true]
  res := .tup []
  outs := [.gen 8 true]
  m := fun d dh => wk_OverInts_2 d.1 dh.1
  ok := ce_ok mixedP Try.func69 (by kernel_rfl) (orcOfX_ok HK0 wk_OverInts_2_tb) (dr := dr0) (lps := lpsOf wk_OverInts_2_lt) (lps_fn (lps_of (n := 1) (by kernel_rfl) fun i hi => match i, hi with | 0, _ => lp_ok (E := wk_OverInts_2_e1) (by kernel_rfl) wk_OverInts_2_e1_ok)) (fun d dh => by kernel_rfl)

def wk_OverInts_3_tb : List (CEp) := [wk_mark_ce]
def wk_OverInts_3_l1 (a : ((Nat × Nat × Nat × Nat × Unit) × Int × Unit) × ((List (DEntryX)) × Unit)) : Option ((((Nat × Nat × Nat × Nat × Unit) × Int × Unit) × ((List (DEntryX)) × Unit)) ⊕ ((Unit × ((List (DEntryX)) × Unit)))) :=
  (bif (decide ((a.1.2.1 : Int) < ((a.1.1.2.2.1 : Nat) : Int))) then
  (wk_mark 2 a.1.2.1).bind fun r1 =>
  (if 0 ≤ (a.1.2.1 : Int) ∧ (a.1.2.1 : Int) < ((a.1.1.2.2.1 : Nat) : Int) then
  (a.2.1[a.1.1.1]?).bind fun e2 =>
  (if (a.1.1.2.1 + (a.1.2.1 : Int).toNat) < (e2.config.old.1 ++ e2.config.old.2).length then
  some (.inl (((a.1.1.1, a.1.1.2.1, a.1.1.2.2.1, a.1.1.2.2.2.1, ()), (IntKind.i64.wrap (a.1.2.1 + 1)), ()), ((a.2.1.set a.1.1.1 (⟨e2.term_, e2.kind, e2.command, (⟨e2.config.voters, ((((e2.config.old.1 ++ e2.config.old.2).set (a.1.1.2.1 + (a.1.2.1 : Int).toNat) r1.1).take e2.config.old.1.length), (((e2.config.old.1 ++ e2.config.old.2).set (a.1.1.2.1 + (a.1.2.1 : Int).toNat) r1.1).drop e2.config.old.1.length)), e2.config.learners, e2.config.want⟩ : DConfigX)⟩ : DEntryX)), ())))
  else none)
  else none)
  else
  some (.inr ((), (a.2.1, ()))))
def wk_OverInts_3_e1 : LEp := ⟨2, [2, 3], [.one (.gv 0 1054 4), .one (.int .i64)], [.gen 8 true], [⟨.exit 0, [], [], [.gen 8 true]⟩], wk_OverInts_3_l1⟩
def wk_OverInts_3_lt : List (LEp) := [wk_OverInts_3_e1]
theorem wk_OverInts_3_e1_ok : LeOk wk_OverInts_3_e1 (nthL (bodyOf Try.f69) 0) := fun A env h k z hk => le_ok (E := wk_OverInts_3_e1) (orcOfX_ok HK0 wk_OverInts_3_tb) (dr := dr0) (lps := lpsOf wk_OverInts_3_lt) (no_loop (by kernel_rfl)) (fun a => by kernel_rfl) env h k z hk
def wk_OverInts_3 (x0 : Nat × Nat × Nat × Nat × Unit) (h0 : List (DEntryX)) : Option (Unit × ((List (DEntryX)) × Unit)) :=
  let y1 : Int := (if ((IntKind.i64.wrap (((x0.2.2.1 : Nat) : Int) + 12)) : Int) < ((x0.2.2.2.1 : Nat) : Int) then (IntKind.i64.wrap (((x0.2.2.1 : Nat) : Int) + 12)) else ((x0.2.2.2.1 : Nat) : Int))
  (if 0 ≤ (0 : Int) ∧ (0 : Int) ≤ (y1 : Int) ∧ (y1 : Int) ≤ ((x0.2.2.2.1 : Nat) : Int) ∧ ((0 : Int) = 0 ∨ (0 : Int) < ((x0.2.2.2.1 : Nat) : Int)) then
  (loopM wk_OverInts_3_l1 (((x0.1, (x0.2.1 + (0 : Int).toNat), ((y1 : Int).toNat - (0 : Int).toNat), (x0.2.2.2.1 - (0 : Int).toNat), ()), 0, ()), (h0, ()))).bind fun b2 =>
  some ((), (b2.2.1, ()))
  else none)
def wk_OverInts_3_ce : CEp where
  f := 69
  args := [.one (.gv 0 1054 4)]
  hs := [.gen 8 true]
  res := .tup []
  outs := [.gen 8 true]
  m := fun d dh => wk_OverInts_3 d.1 dh.1
  ok := ce_ok mixedP Try.func69 (by kernel_rfl) (orcOfX_ok HK0 wk_OverInts_3_tb) (dr := dr0) (lps := lpsOf wk_OverInts_3_lt) (lps_fn (lps_of (n := 1) (by kernel_rfl) fun i hi => match i, hi with | 0, _ => lp_ok (E := wk_OverInts_3_e1) (by kernel_rfl) wk_OverInts_3_e1_ok)) (fun d dh => by kernel_rfl)

def wk_OverInts_4_tb : List (CEp) := [wk_mark_ce]
def wk_OverInts_4_l1 (a : ((Nat × Nat × Nat × Nat × Unit) × Int × Unit) × ((List (DEntryX)) × Unit)) : Option ((((Nat × Nat × Nat × Nat × Unit) × Int × Unit) × ((List (DEntryX)) × Unit)) ⊕ ((Unit × ((List (DEntryX)) × Unit)))) :=
  (bif (decide ((a.1.2.1 : Int) < ((a.1.1.2.2.1 : Nat) : Int))) then
  (wk_mark 2 a.1.2.1).bind fun r1 =>
  (if 0 ≤ (a.1.2.1 : Int) ∧ (a.1.2.1 : Int) < ((a.1.1.2.2.1 : Nat) : Int) then
  (a.2.1[a.1.1.1]?).bind fun e2 =>
  (if (a.1.1.2.1 + (a.1.2.1 : Int).toNat) < (e2.config.learners.1 ++ e2.config.learners.2).length then
  some (.inl (((a.1.1.1, a.1.1.2.1, a.1.1.2.2.1, a.1.1.2.2.2.1, ()), (IntKind.i64.wrap (a.1.2.1 + 1)), ()), ((a.2.1.set a.1.1.1 (⟨e2.term_, e2.kind, e2.command, (⟨e2.config.voters, e2.config.old, ((((e2.config.learners.1 ++ e2.config.learners.2).set (a.1.1.2.1 + (a.1.2.1 : Int).toNat) r1.1).take e2.config.learners.1.length), (((e2.config.learners.1 ++ e2.config.learners.2).set (a.1.1.2.1 + (a.1.2.1 : Int).toNat) r1.1).drop e2.config.learners.1.length)), e2.config.want⟩ : DConfigX)⟩ : DEntryX)), ())))
  else none)
  else none)
  else
  some (.inr ((), (a.2.1, ()))))
def wk_OverInts_4_e1 : LEp := ⟨2, [2, 3], [.one (.gv 0 1310 4), .one (.int .i64)], [.gen 8 true], [⟨.exit 0, [], [], [.gen 8 true]⟩], wk_OverInts_4_l1⟩
def wk_OverInts_4_lt : List (LEp) := [wk_OverInts_4_e1]
theorem wk_OverInts_4_e1_ok : LeOk wk_OverInts_4_e1 (nthL (bodyOf Try.f69) 0) := fun A env h k z hk => le_ok (E := wk_OverInts_4_e1) (orcOfX_ok HK0 wk_OverInts_4_tb) (dr := dr0) (lps := lpsOf wk_OverInts_4_lt) (no_loop (by kernel_rfl)) (fun a => by kernel_rfl) env h k z hk
def wk_OverInts_4 (x0 : Nat × Nat × Nat × Nat × Unit) (h0 : List (DEntryX)) : Option (Unit × ((List (DEntryX)) × Unit)) :=
  let y1 : Int := (if ((IntKind.i64.wrap (((x0.2.2.1 : Nat) : Int) + 12)) : Int) < ((x0.2.2.2.1 : Nat) : Int) then (IntKind.i64.wrap (((x0.2.2.1 : Nat) : Int) + 12)) else ((x0.2.2.2.1 : Nat) : Int))
  (if 0 ≤ (0 : Int) ∧ (0 : Int) ≤ (y1 : Int) ∧ (y1 : Int) ≤ ((x0.2.2.2.1 : Nat) : Int) ∧ ((0 : Int) = 0 ∨ (0 : Int) < ((x0.2.2.2.1 : Nat) : Int)) then
  (loopM wk_OverInts_4_l1 (((x0.1, (x0.2.1 + (0 : Int).toNat), ((y1 : Int).toNat - (0 : Int).toNat), (x0.2.2.2.1 - (0 : Int).toNat), ()), 0, ()), (h0, ()))).bind fun b2 =>
  some ((), (b2.2.1, ()))
  else none)
def wk_OverInts_4_ce : CEp where
  f := 69
  args := [.one (.gv 0 1310 4)]
  hs := [.gen 8 true]
  res := .tup []
  outs := [.gen 8 true]
  m := fun d dh => wk_OverInts_4 d.1 dh.1
  ok := ce_ok mixedP Try.func69 (by kernel_rfl) (orcOfX_ok HK0 wk_OverInts_4_tb) (dr := dr0) (lps := lpsOf wk_OverInts_4_lt) (lps_fn (lps_of (n := 1) (by kernel_rfl) fun i hi => match i, hi with | 0, _ => lp_ok (E := wk_OverInts_4_e1) (by kernel_rfl) wk_OverInts_4_e1_ok)) (fun d dh => by kernel_rfl)

def wk_OverInts_5_tb : List (CEp) := [wk_mark_ce]
def wk_OverInts_5_l1 (a : ((Nat × Nat × Nat × Nat × Unit) × Int × Unit) × ((List (DEntryX)) × Unit)) : Option ((((Nat × Nat × Nat × Nat × Unit) × Int × Unit) × ((List (DEntryX)) × Unit)) ⊕ ((Unit × ((List (DEntryX)) × Unit)))) :=
  (bif (decide ((a.1.2.1 : Int) < ((a.1.1.2.2.1 : Nat) : Int))) then
  (wk_mark 2 a.1.2.1).bind fun r1 =>
  (if 0 ≤ (a.1.2.1 : Int) ∧ (a.1.2.1 : Int) < ((a.1.1.2.2.1 : Nat) : Int) then
  (a.2.1[a.1.1.1]?).bind fun e2 =>
  (if (a.1.1.2.1 + (a.1.2.1 : Int).toNat) < (e2.config.want.1 ++ e2.config.want.2).length then
  some (.inl (((a.1.1.1, a.1.1.2.1, a.1.1.2.2.1, a.1.1.2.2.2.1, ()), (IntKind.i64.wrap (a.1.2.1 + 1)), ()), ((a.2.1.set a.1.1.1 (⟨e2.term_, e2.kind, e2.command, (⟨e2.config.voters, e2.config.old, e2.config.learners, ((((e2.config.want.1 ++ e2.config.want.2).set (a.1.1.2.1 + (a.1.2.1 : Int).toNat) r1.1).take e2.config.want.1.length), (((e2.config.want.1 ++ e2.config.want.2).set (a.1.1.2.1 + (a.1.2.1 : Int).toNat) r1.1).drop e2.config.want.1.length))⟩ : DConfigX)⟩ : DEntryX)), ())))
  else none)
  else none)
  else
  some (.inr ((), (a.2.1, ()))))
def wk_OverInts_5_e1 : LEp := ⟨2, [2, 3], [.one (.gv 0 1566 4), .one (.int .i64)], [.gen 8 true], [⟨.exit 0, [], [], [.gen 8 true]⟩], wk_OverInts_5_l1⟩
def wk_OverInts_5_lt : List (LEp) := [wk_OverInts_5_e1]
theorem wk_OverInts_5_e1_ok : LeOk wk_OverInts_5_e1 (nthL (bodyOf Try.f69) 0) := fun A env h k z hk => le_ok (E := wk_OverInts_5_e1) (orcOfX_ok HK0 wk_OverInts_5_tb) (dr := dr0) (lps := lpsOf wk_OverInts_5_lt) (no_loop (by kernel_rfl)) (fun a => by kernel_rfl) env h k z hk
def wk_OverInts_5 (x0 : Nat × Nat × Nat × Nat × Unit) (h0 : List (DEntryX)) : Option (Unit × ((List (DEntryX)) × Unit)) :=
  let y1 : Int := (if ((IntKind.i64.wrap (((x0.2.2.1 : Nat) : Int) + 12)) : Int) < ((x0.2.2.2.1 : Nat) : Int) then (IntKind.i64.wrap (((x0.2.2.1 : Nat) : Int) + 12)) else ((x0.2.2.2.1 : Nat) : Int))
  (if 0 ≤ (0 : Int) ∧ (0 : Int) ≤ (y1 : Int) ∧ (y1 : Int) ≤ ((x0.2.2.2.1 : Nat) : Int) ∧ ((0 : Int) = 0 ∨ (0 : Int) < ((x0.2.2.2.1 : Nat) : Int)) then
  (loopM wk_OverInts_5_l1 (((x0.1, (x0.2.1 + (0 : Int).toNat), ((y1 : Int).toNat - (0 : Int).toNat), (x0.2.2.2.1 - (0 : Int).toNat), ()), 0, ()), (h0, ()))).bind fun b2 =>
  some ((), (b2.2.1, ()))
  else none)
def wk_OverInts_5_ce : CEp where
  f := 69
  args := [.one (.gv 0 1566 4)]
  hs := [.gen 8 true]
  res := .tup []
  outs := [.gen 8 true]
  m := fun d dh => wk_OverInts_5 d.1 dh.1
  ok := ce_ok mixedP Try.func69 (by kernel_rfl) (orcOfX_ok HK0 wk_OverInts_5_tb) (dr := dr0) (lps := lpsOf wk_OverInts_5_lt) (lps_fn (lps_of (n := 1) (by kernel_rfl) fun i hi => match i, hi with | 0, _ => lp_ok (E := wk_OverInts_5_e1) (by kernel_rfl) wk_OverInts_5_e1_ok)) (fun d dh => by kernel_rfl)

def wk_OverConfig_2_tb : List (CEp) := [wk_OverInts_2_ce, wk_OverInts_3_ce, wk_OverInts_4_ce, wk_OverInts_5_ce]
def wk_OverConfig_2 (x0 : (Nat × Nat × Nat × Nat × Unit) × (Nat × Nat × Nat × Nat × Unit) × (Nat × Nat × Nat × Nat × Unit) × (Nat × Nat × Nat × Nat × Unit) × Unit) (h0 : List (DEntryX)) : Option (Unit × ((List (DEntryX)) × Unit)) :=
  (wk_OverInts_2 (x0.1.1, x0.1.2.1, x0.1.2.2.1, x0.1.2.2.2.1, ()) h0).bind fun r1 =>
  (wk_OverInts_3 (x0.2.1.1, x0.2.1.2.1, x0.2.1.2.2.1, x0.2.1.2.2.2.1, ()) r1.2.1).bind fun r2 =>
  (wk_OverInts_4 (x0.2.2.1.1, x0.2.2.1.2.1, x0.2.2.1.2.2.1, x0.2.2.1.2.2.2.1, ()) r2.2.1).bind fun r3 =>
  (wk_OverInts_5 (x0.2.2.2.1.1, x0.2.2.2.1.2.1, x0.2.2.2.1.2.2.1, x0.2.2.2.1.2.2.2.1, ()) r3.2.1).bind fun r4 =>
  some ((), (r4.2.1, ()))
def wk_OverConfig_2_ce : CEp where
  f := 61
  args := [.agg [.gv 0 798 4, .gv 0 1054 4, .gv 0 1310 4, .gv 0 1566 4]]
  hs := [.gen 8 true]
  res := .tup []
  outs := [.gen 8 true]
  m := fun d dh => wk_OverConfig_2 d.1 dh.1
  ok := ceO Try.func61 (by kernel_rfl) wk_OverConfig_2_tb (by kernel_rfl) fun d dh => by kernel_rfl

def wk_OverEntry_tb : List (CEp) := [wk_OverBytes_2_ce, wk_OverConfig_2_ce]
def wk_OverEntry (x0 : Int × Int × (Nat × Nat × Nat × Nat × Unit) × (Nat × Nat × Nat × Nat × Unit) × (Nat × Nat × Nat × Nat × Unit) × (Nat × Nat × Nat × Nat × Unit) × (Nat × Nat × Nat × Nat × Unit) × Unit) (h0 : List (DEntryX)) : Option (Unit × ((List (DEntryX)) × Unit)) :=
  (wk_OverBytes_2 (x0.2.2.1.1, x0.2.2.1.2.1, x0.2.2.1.2.2.1, x0.2.2.1.2.2.2.1, ()) h0).bind fun r1 =>
  (wk_OverConfig_2 ((x0.2.2.2.1.1, x0.2.2.2.1.2.1, x0.2.2.2.1.2.2.1, x0.2.2.2.1.2.2.2.1, ()), (x0.2.2.2.2.1.1, x0.2.2.2.2.1.2.1, x0.2.2.2.2.1.2.2.1, x0.2.2.2.2.1.2.2.2.1, ()), (x0.2.2.2.2.2.1.1, x0.2.2.2.2.2.1.2.1, x0.2.2.2.2.2.1.2.2.1, x0.2.2.2.2.2.1.2.2.2.1, ()), (x0.2.2.2.2.2.2.1.1, x0.2.2.2.2.2.2.1.2.1, x0.2.2.2.2.2.2.1.2.2.1, x0.2.2.2.2.2.2.1.2.2.2.1, ()), ()) r1.2.1).bind fun r2 =>
  some ((), (r2.2.1, ()))
def wk_OverEntry_ce : CEp where
  f := 60
  args := [.agg [.int .i64, .int .u8, .gv 0 542 4, .gv 0 798 4, .gv 0 1054 4, .gv 0 1310 4, .gv 0 1566 4]]
  hs := [.gen 8 true]
  res := .tup []
  outs := [.gen 8 true]
  m := fun d dh => wk_OverEntry d.1 dh.1
  ok := ceO Try.func60 (by kernel_rfl) wk_OverEntry_tb (by kernel_rfl) fun d dh => by kernel_rfl

def wk_OverEntries_2_tb : List (CEp) := [wk_OverEntry_ce, wk_markEntry_ce]
def wk_OverEntries_2_l1 (a : ((Nat × Nat × Nat × Unit) × Int × Unit) × ((List (DEntryX)) × Unit)) : Option ((((Nat × Nat × Nat × Unit) × Int × Unit) × ((List (DEntryX)) × Unit)) ⊕ ((((Nat × Nat × Nat × Unit) × Unit) × ((List (DEntryX)) × Unit)))) :=
  (bif (decide ((a.1.2.1 : Int) < ((a.1.1.2.1 : Nat) : Int))) then
  (if 0 ≤ (a.1.2.1 : Int) ∧ (a.1.2.1 : Int) < ((a.1.1.2.1 : Nat) : Int) then
  (a.2.1[(a.1.1.1 + (a.1.2.1 : Int).toNat)]?).bind fun e1 =>
  (wk_OverEntry (e1.term_, e1.kind, ((a.1.1.1 + (a.1.2.1 : Int).toNat), 0, e1.command.1.length, (e1.command.1.length + e1.command.2.length), ()), ((a.1.1.1 + (a.1.2.1 : Int).toNat), 0, e1.config.voters.1.length, (e1.config.voters.1.length + e1.config.voters.2.length), ()), ((a.1.1.1 + (a.1.2.1 : Int).toNat), 0, e1.config.old.1.length, (e1.config.old.1.length + e1.config.old.2.length), ()), ((a.1.1.1 + (a.1.2.1 : Int).toNat), 0, e1.config.learners.1.length, (e1.config.learners.1.length + e1.config.learners.2.length), ()), ((a.1.1.1 + (a.1.2.1 : Int).toNat), 0, e1.config.want.1.length, (e1.config.want.1.length + e1.config.want.2.length), ()), ()) a.2.1).bind fun r2 =>
  some (.inl (((a.1.1.1, a.1.1.2.1, a.1.1.2.2.1, ()), (IntKind.i64.wrap (a.1.2.1 + 1)), ()), (r2.2.1, ())))
  else none)
  else
  some (.inr (((a.1.1.1, a.1.1.2.1, a.1.1.2.2.1, ()), ()), (a.2.1, ()))))
def wk_OverEntries_2_e1 : LEp := ⟨1, [0, 2], [.one (.gv 0 28 3), .one (.int .i64)], [.gen 8 true], [⟨.exit 0, [0], [.one (.gv 0 28 3)], [.gen 8 true]⟩], wk_OverEntries_2_l1⟩
def wk_OverEntries_2_l2 (a : ((Nat × Nat × Nat × Unit) × Int × Unit) × ((List (DEntryX)) × Unit)) : Option ((((Nat × Nat × Nat × Unit) × Int × Unit) × ((List (DEntryX)) × Unit)) ⊕ ((Unit × ((List (DEntryX)) × Unit)))) :=
  (bif (decide ((a.1.2.1 : Int) < ((a.1.1.2.1 : Nat) : Int))) then
  (wk_markEntry 2 a.1.2.1).bind fun r1 =>
  (if 0 ≤ (a.1.2.1 : Int) ∧ (a.1.2.1 : Int) < ((a.1.1.2.1 : Nat) : Int) then
  (if (a.1.1.1 + (a.1.2.1 : Int).toNat) < a.2.1.length then
  some (.inl (((a.1.1.1, a.1.1.2.1, a.1.1.2.2.1, ()), (IntKind.i64.wrap (a.1.2.1 + 1)), ()), ((a.2.1.set (a.1.1.1 + (a.1.2.1 : Int).toNat) (⟨r1.1.1, r1.1.2.1, ([], []), (⟨([], []), ([], []), ([], []), ([], [])⟩ : DConfigX)⟩ : DEntryX)), ())))
  else none)
  else none)
  else
  some (.inr ((), (a.2.1, ()))))
def wk_OverEntries_2_e2 : LEp := ⟨6, [3, 4], [.one (.gv 0 28 3), .one (.int .i64)], [.gen 8 true], [⟨.exit 2, [], [], [.gen 8 true]⟩], wk_OverEntries_2_l2⟩
def wk_OverEntries_2_lt : List (LEp) := [wk_OverEntries_2_e1, wk_OverEntries_2_e2]
theorem wk_OverEntries_2_e1_ok : LeOk wk_OverEntries_2_e1 (nthL (bodyOf Try.f40) 0) := fun A env h k z hk => le_ok (E := wk_OverEntries_2_e1) (orcOfX_ok HK0 wk_OverEntries_2_tb) (dr := dr0) (lps := lpsOf wk_OverEntries_2_lt) (no_loop (by kernel_rfl)) (fun a => by kernel_rfl) env h k z hk
theorem wk_OverEntries_2_e2_ok : LeOk wk_OverEntries_2_e2 (nthL (bodyOf Try.f40) 1) := fun A env h k z hk => le_ok (E := wk_OverEntries_2_e2) (orcOfX_ok HK0 wk_OverEntries_2_tb) (dr := dr0) (lps := lpsOf wk_OverEntries_2_lt) (no_loop (by kernel_rfl)) (fun a => by kernel_rfl) env h k z hk
def wk_OverEntries_2 (x0 : Nat × Nat × Nat × Unit) (h0 : List (DEntryX)) : Option (Unit × ((List (DEntryX)) × Unit)) :=
  (loopM wk_OverEntries_2_l1 (((x0.1, x0.2.1, x0.2.2.1, ()), 0, ()), (h0, ()))).bind fun b1 =>
  let y2 : Int := (if ((IntKind.i64.wrap (((b1.1.1.2.1 : Nat) : Int) + 12)) : Int) < ((b1.1.1.2.2.1 - b1.1.1.1 : Nat) : Int) then (IntKind.i64.wrap (((b1.1.1.2.1 : Nat) : Int) + 12)) else ((b1.1.1.2.2.1 - b1.1.1.1 : Nat) : Int))
  (if 0 ≤ (0 : Int) ∧ (0 : Int) ≤ (y2 : Int) ∧ (y2 : Int) ≤ ((b1.1.1.2.2.1 - b1.1.1.1 : Nat) : Int) ∧ (0 : Int) < ((b1.1.1.2.2.1 - b1.1.1.1 : Nat) : Int) then
  (loopM wk_OverEntries_2_l2 ((((b1.1.1.1 + (0 : Int).toNat), ((y2 : Int).toNat - (0 : Int).toNat), b1.1.1.2.2.1, ()), 0, ()), (b1.2.1, ()))).bind fun b3 =>
  some ((), (b3.2.1, ()))
  else none)
def wk_OverEntries_2_ce : CEp where
  f := 40
  args := [.one (.gv 0 28 3)]
  hs := [.gen 8 true]
  res := .tup []
  outs := [.gen 8 true]
  m := fun d dh => wk_OverEntries_2 d.1 dh.1
  ok := ce_ok mixedP Try.func40 (by kernel_rfl) (orcOfX_ok HK0 wk_OverEntries_2_tb) (dr := dr0) (lps := lpsOf wk_OverEntries_2_lt) (lps_fn (lps_of (n := 2) (by kernel_rfl) fun i hi => match i, hi with | 0, _ => lp_ok (E := wk_OverEntries_2_e1) (by kernel_rfl) wk_OverEntries_2_e1_ok | 1, _ => lp_ok (E := wk_OverEntries_2_e2) (by kernel_rfl) wk_OverEntries_2_e2_ok)) (fun d dh => by kernel_rfl)

def wk_OverInts_6_tb : List (CEp) := [wk_mark_ce]
def wk_OverInts_6_l1 (a : ((Nat × Nat × Nat) × Int × Unit) × (LI × Unit)) : Option ((((Nat × Nat × Nat) × Int × Unit) × (LI × Unit)) ⊕ ((Unit × (LI × Unit)))) :=
  (bif (decide ((a.1.2.1 : Int) < ((a.1.1.2.1 : Nat) : Int))) then
  (wk_mark 2 a.1.2.1).bind fun r1 =>
  (if 0 ≤ (a.1.2.1 : Int) ∧ (a.1.2.1 : Int) < ((a.1.1.2.1 : Nat) : Int) then
  (a.2.1[(a.1.1.1 + (a.1.2.1 : Int).toNat)]?).bind fun e2 =>
  some (.inl (((a.1.1.1, a.1.1.2.1, a.1.1.2.2), (IntKind.i64.wrap (a.1.2.1 + 1)), ()), ((a.2.1.set (a.1.1.1 + (a.1.2.1 : Int).toNat) r1.1), ())))
  else none)
  else
  some (.inr ((), (a.2.1, ()))))
def wk_OverInts_6_e1 : LEp := ⟨2, [2, 3], [.one (.as 0 0), .one (.int .i64)], [.arr 3 0 true], [⟨.exit 0, [], [], [.arr 3 0 true]⟩], wk_OverInts_6_l1⟩
def wk_OverInts_6_lt : List (LEp) := [wk_OverInts_6_e1]
theorem wk_OverInts_6_e1_ok : LeOk wk_OverInts_6_e1 (nthL (bodyOf Try.f69) 0) := fun A env h k z hk => le_ok (E := wk_OverInts_6_e1) (orcOf_ok wk_OverInts_6_tb) (dr := dr0) (lps := lpsOf wk_OverInts_6_lt) (no_loop (by kernel_rfl)) (fun a => by kernel_rfl) env h k z hk
def wk_OverInts_6 (x0 : Nat × Nat × Nat) (h0 : LI) : Option (Unit × (LI × Unit)) :=
  let y1 : Int := (if ((IntKind.i64.wrap (((x0.2.1 : Nat) : Int) + 12)) : Int) < ((x0.2.2 : Nat) : Int) then (IntKind.i64.wrap (((x0.2.1 : Nat) : Int) + 12)) else ((x0.2.2 : Nat) : Int))
  (if 0 ≤ ((0 : Int) : Int) ∧ ((0 : Int) : Int) ≤ (y1 : Int) ∧ (y1 : Int) ≤ ((x0.2.2 : Nat) : Int) ∧ (y1 : Int) ≤ 140737488355328 then
  (loopM wk_OverInts_6_l1 ((((x0.1 + (0 : Int).toNat), ((y1 : Int).toNat - (0 : Int).toNat), (x0.2.2 - (0 : Int).toNat)), 0, ()), (h0, ()))).bind fun b2 =>
  some ((), (b2.2.1, ()))
  else none)
def wk_OverInts_6_ce : CEp where
  f := 69
  args := [.one (.as 0 0)]
  hs := [.arr 3 0 true]
  res := .tup []
  outs := [.arr 3 0 true]
  m := fun d dh => wk_OverInts_6 d.1 dh.1
  ok := ce_ok mixedP Try.func69 (by kernel_rfl) (orcOf_ok wk_OverInts_6_tb) (dr := dr0) (lps := lpsOf wk_OverInts_6_lt) (lps_fn (lps_of (n := 1) (by kernel_rfl) fun i hi => match i, hi with | 0, _ => lp_ok (E := wk_OverInts_6_e1) (by kernel_rfl) wk_OverInts_6_e1_ok)) (fun d dh => by kernel_rfl)

def wk_OverConfig_3_tb : List (CEp) := [wk_OverInts_6_ce]
def wk_OverConfig_3 (x0 : (Nat × Nat × Nat) × (Nat × Nat × Nat) × (Nat × Nat × Nat) × (Nat × Nat × Nat) × Unit) (h0 : LI) (h1 : LI) (h2 : LI) (h3 : LI) : Option (Unit × (LI × LI × LI × LI × Unit)) :=
  (wk_OverInts_6 (x0.1.1, x0.1.2.1, x0.1.2.2) h0).bind fun r1 =>
  (wk_OverInts_6 (x0.2.1.1, x0.2.1.2.1, x0.2.1.2.2) h1).bind fun r2 =>
  (wk_OverInts_6 (x0.2.2.1.1, x0.2.2.1.2.1, x0.2.2.1.2.2) h2).bind fun r3 =>
  (wk_OverInts_6 (x0.2.2.2.1.1, x0.2.2.2.1.2.1, x0.2.2.2.1.2.2) h3).bind fun r4 =>
  some ((), (r1.2.1, r2.2.1, r3.2.1, r4.2.1, ()))
def wk_OverConfig_3_ce : CEp where
  f := 61
  args := [.agg [.as 0 0, .as 0 1, .as 0 2, .as 0 3]]
  hs := [.arr 3 0 true, .arr 3 0 true, .arr 3 0 true, .arr 3 0 true]
  res := .tup []
  outs := [.arr 3 0 true, .arr 3 0 true, .arr 3 0 true, .arr 3 0 true]
  m := fun d dh => wk_OverConfig_3 d.1 dh.1 dh.2.1 dh.2.2.1 dh.2.2.2.1
  ok := ceO Try.func61 (by kernel_rfl) wk_OverConfig_3_tb (by kernel_rfl) fun d dh => by kernel_rfl

def wk_OverBase_2_tb : List (CEp) := [wk_OverConfig_3_ce]
def wk_OverBase_2 (x0 : Int × Int × (Nat × Nat × Nat) × (Nat × Nat × Nat) × (Nat × Nat × Nat) × (Nat × Nat × Nat) × Unit) (h0 : LI) (h1 : LI) (h2 : LI) (h3 : LI) : Option (Unit × (LI × LI × LI × LI × Unit)) :=
  (wk_OverConfig_3 ((x0.2.2.1.1, x0.2.2.1.2.1, x0.2.2.1.2.2), (x0.2.2.2.1.1, x0.2.2.2.1.2.1, x0.2.2.2.1.2.2), (x0.2.2.2.2.1.1, x0.2.2.2.2.1.2.1, x0.2.2.2.2.1.2.2), (x0.2.2.2.2.2.1.1, x0.2.2.2.2.2.1.2.1, x0.2.2.2.2.2.1.2.2), ()) h0 h1 h2 h3).bind fun r1 =>
  some ((), (r1.2.1, r1.2.2.1, r1.2.2.2.1, r1.2.2.2.2.1, ()))
def wk_OverBase_2_ce : CEp where
  f := 41
  args := [.agg [.int .i64, .int .i64, .as 0 0, .as 0 1, .as 0 2, .as 0 3]]
  hs := [.arr 3 0 true, .arr 3 0 true, .arr 3 0 true, .arr 3 0 true]
  res := .tup []
  outs := [.arr 3 0 true, .arr 3 0 true, .arr 3 0 true, .arr 3 0 true]
  m := fun d dh => wk_OverBase_2 d.1 dh.1 dh.2.1 dh.2.2.1 dh.2.2.2.1
  ok := ceO Try.func41 (by kernel_rfl) wk_OverBase_2_tb (by kernel_rfl) fun d dh => by kernel_rfl

def wk_OverBytes_3_tb : List (CEp) := [wk_markByte_ce]
def wk_OverBytes_3_l1 (a : ((Nat × Nat × Nat) × Int × Unit) × (LB × Unit)) : Option ((((Nat × Nat × Nat) × Int × Unit) × (LB × Unit)) ⊕ ((Unit × (LB × Unit)))) :=
  (bif (decide ((a.1.2.1 : Int) < ((a.1.1.2.1 : Nat) : Int))) then
  (wk_markByte 2 a.1.2.1).bind fun r1 =>
  (if 0 ≤ (a.1.2.1 : Int) ∧ (a.1.2.1 : Int) < ((a.1.1.2.1 : Nat) : Int) then
  (a.2.1[(a.1.1.1 + (a.1.2.1 : Int).toNat)]?).bind fun e2 =>
  (b8 r1.1).bind fun u3 =>
  some (.inl (((a.1.1.1, a.1.1.2.1, a.1.1.2.2), (IntKind.i64.wrap (a.1.2.1 + 1)), ()), ((a.2.1.set (a.1.1.1 + (a.1.2.1 : Int).toNat) u3), ())))
  else none)
  else
  some (.inr ((), (a.2.1, ()))))
def wk_OverBytes_3_e1 : LEp := ⟨2, [2, 3], [.one (.as 1 0), .one (.int .i64)], [.arr 5 1 true], [⟨.exit 0, [], [], [.arr 5 1 true]⟩], wk_OverBytes_3_l1⟩
def wk_OverBytes_3_lt : List (LEp) := [wk_OverBytes_3_e1]
theorem wk_OverBytes_3_e1_ok : LeOk wk_OverBytes_3_e1 (nthL (bodyOf Try.f42) 0) := fun A env h k z hk => le_ok (E := wk_OverBytes_3_e1) (orcOf_ok wk_OverBytes_3_tb) (dr := dr0) (lps := lpsOf wk_OverBytes_3_lt) (no_loop (by kernel_rfl)) (fun a => by kernel_rfl) env h k z hk
def wk_OverBytes_3 (x0 : Nat × Nat × Nat) (h0 : LB) : Option (Unit × (LB × Unit)) :=
  let y1 : Int := (if ((IntKind.i64.wrap (((x0.2.1 : Nat) : Int) + 12)) : Int) < ((x0.2.2 : Nat) : Int) then (IntKind.i64.wrap (((x0.2.1 : Nat) : Int) + 12)) else ((x0.2.2 : Nat) : Int))
  (if 0 ≤ ((0 : Int) : Int) ∧ ((0 : Int) : Int) ≤ (y1 : Int) ∧ (y1 : Int) ≤ ((x0.2.2 : Nat) : Int) ∧ (y1 : Int) ≤ 140737488355328 then
  (loopM wk_OverBytes_3_l1 ((((x0.1 + (0 : Int).toNat), ((y1 : Int).toNat - (0 : Int).toNat), (x0.2.2 - (0 : Int).toNat)), 0, ()), (h0, ()))).bind fun b2 =>
  some ((), (b2.2.1, ()))
  else none)
def wk_OverBytes_3_ce : CEp where
  f := 42
  args := [.one (.as 1 0)]
  hs := [.arr 5 1 true]
  res := .tup []
  outs := [.arr 5 1 true]
  m := fun d dh => wk_OverBytes_3 d.1 dh.1
  ok := ce_ok mixedP Try.func42 (by kernel_rfl) (orcOf_ok wk_OverBytes_3_tb) (dr := dr0) (lps := lpsOf wk_OverBytes_3_lt) (lps_fn (lps_of (n := 1) (by kernel_rfl) fun i hi => match i, hi with | 0, _ => lp_ok (E := wk_OverBytes_3_e1) (by kernel_rfl) wk_OverBytes_3_e1_ok)) (fun d dh => by kernel_rfl)

def wk_OverLetter_2_tb : List (CEp) := [wk_OverEntries_2_ce, wk_OverBase_2_ce, wk_OverBytes_3_ce]
def wk_OverLetter_2 (x0 : Int × Int × Int × Int × Int × Int × Int × Int × Bool × (Nat × Nat × Nat × Unit) × Int × Int × (Nat × Nat × Nat) × (Nat × Nat × Nat) × (Nat × Nat × Nat) × (Nat × Nat × Nat) × Int × Int × Int × (Nat × Nat × Nat) × Unit) (h0 : List (DEntryX)) (h1 : LI) (h2 : LI) (h3 : LI) (h4 : LI) (h5 : LB) : Option (Unit × ((List (DEntryX)) × LI × LI × LI × LI × LB × Unit)) :=
  (wk_OverEntries_2 (x0.2.2.2.2.2.2.2.2.2.1.1, x0.2.2.2.2.2.2.2.2.2.1.2.1, x0.2.2.2.2.2.2.2.2.2.1.2.2.1, ()) h0).bind fun r1 =>
  (wk_OverBase_2 (x0.2.2.2.2.2.2.2.2.2.2.1, x0.2.2.2.2.2.2.2.2.2.2.2.1, (x0.2.2.2.2.2.2.2.2.2.2.2.2.1.1, x0.2.2.2.2.2.2.2.2.2.2.2.2.1.2.1, x0.2.2.2.2.2.2.2.2.2.2.2.2.1.2.2), (x0.2.2.2.2.2.2.2.2.2.2.2.2.2.1.1, x0.2.2.2.2.2.2.2.2.2.2.2.2.2.1.2.1, x0.2.2.2.2.2.2.2.2.2.2.2.2.2.1.2.2), (x0.2.2.2.2.2.2.2.2.2.2.2.2.2.2.1.1, x0.2.2.2.2.2.2.2.2.2.2.2.2.2.2.1.2.1, x0.2.2.2.2.2.2.2.2.2.2.2.2.2.2.1.2.2), (x0.2.2.2.2.2.2.2.2.2.2.2.2.2.2.2.1.1, x0.2.2.2.2.2.2.2.2.2.2.2.2.2.2.2.1.2.1, x0.2.2.2.2.2.2.2.2.2.2.2.2.2.2.2.1.2.2), ()) h1 h2 h3 h4).bind fun r2 =>
  (wk_OverBytes_3 (x0.2.2.2.2.2.2.2.2.2.2.2.2.2.2.2.2.2.2.2.1.1, x0.2.2.2.2.2.2.2.2.2.2.2.2.2.2.2.2.2.2.2.1.2.1, x0.2.2.2.2.2.2.2.2.2.2.2.2.2.2.2.2.2.2.2.1.2.2) h5).bind fun r3 =>
  some ((), (r1.2.1, r2.2.1, r2.2.2.1, r2.2.2.2.1, r2.2.2.2.2.1, r3.2.1, ()))
def wk_OverLetter_2_ce : CEp where
  f := 15
  args := [.agg [.int .u8, .int .i64, .int .i64, .int .i64, .int .i64, .int .i64, .int .i64, .int .i64, .bool, .gv 0 28 3, .int .i64, .int .i64, .as 0 1, .as 0 2, .as 0 3, .as 0 4, .int .i64, .int .i64, .int .i64, .as 1 5]]
  hs := [.gen 8 true, .arr 3 0 true, .arr 3 0 true, .arr 3 0 true, .arr 3 0 true, .arr 5 1 true]
  res := .tup []
  outs := [.gen 8 true, .arr 3 0 true, .arr 3 0 true, .arr 3 0 true, .arr 3 0 true, .arr 5 1 true]
  m := fun d dh => wk_OverLetter_2 d.1 dh.1 dh.2.1 dh.2.2.1 dh.2.2.2.1 dh.2.2.2.2.1 dh.2.2.2.2.2.1
  ok := ceO Try.func15 (by kernel_rfl) wk_OverLetter_2_tb (by kernel_rfl) fun d dh => by kernel_rfl

def wk_OverImage_tb : List (CEp) := [wk_OverBase_ce, wk_OverBytes_v_ce]
def wk_OverImage (x0 : Int × Int × Nat × Nat × Nat × Nat × Nat × Unit) (h0 : LI) (h1 : LI) (h2 : LI) (h3 : LI) (h4 : LB) : Option (Unit × (LI × LI × LI × LI × LB × Unit)) :=
  (wk_OverBase (x0.1, x0.2.1, x0.2.2.1, x0.2.2.2.1, x0.2.2.2.2.1, x0.2.2.2.2.2.1, ()) h0 h1 h2 h3).bind fun r1 =>
  (wk_OverBytes_v x0.2.2.2.2.2.2.1 h4).bind fun r2 =>
  some ((), (r1.2.1, r1.2.2.1, r1.2.2.2.1, r1.2.2.2.2.1, r2.2.1, ()))
def wk_OverImage_ce : CEp where
  f := 25
  args := [.agg [.int .i64, .int .i64, .asz 0 0, .asz 0 1, .asz 0 2, .asz 0 3, .asz 1 4]]
  hs := [.arr 3 0 true, .arr 3 0 true, .arr 3 0 true, .arr 3 0 true, .arr 5 1 true]
  res := .tup []
  outs := [.arr 3 0 true, .arr 3 0 true, .arr 3 0 true, .arr 3 0 true, .arr 5 1 true]
  m := fun d dh => wk_OverImage d.1 dh.1 dh.2.1 dh.2.2.1 dh.2.2.2.1 dh.2.2.2.2.1
  ok := ceO Try.func25 (by kernel_rfl) wk_OverImage_tb (by kernel_rfl) fun d dh => by kernel_rfl

def ferry_Drop_2_tb : List (CEp) := []
def ferry_Drop_2  : Option (Unit × Unit) :=
  some ((), ())
def ferry_Drop_2_ce : CEp where
  f := 20
  args := [.one (.nilptr)]
  hs := []
  res := .tup []
  outs := []
  m := fun d dh => ferry_Drop_2
  ok := ceO Try.func20 (by kernel_rfl) ferry_Drop_2_tb (by kernel_rfl) fun d dh => by kernel_rfl

def ferry_Take_3_dr : Nat → Nat → DrA
  | 2, _ => ⟨[1, 2, 0, 3], [[], [], [1], [0, 1, 2]], [], [], [], false, []⟩
  | _, _ => ⟨[], [], [], [], [], false, []⟩
def ferry_Take_3_tb : List (CEp) := []
def ferry_Take_3 (x1 : DLetter) : Option ((Int × Bool × (DImage) × Unit) × Unit) :=
  some ((0, false, (⟨(⟨0, 0, (⟨[], [], [], []⟩ : DConfig)⟩ : DBase), []⟩ : DImage), ()), ())
def ferry_Take_3_ce : CEp where
  f := 22
  args := [.one (.nilptr), .cod 20]
  hs := []
  res := .tup [.one (.int .i64), .one (.bool), .cod 16]
  outs := []
  m := fun d dh => ferry_Take_3 d.2.1
  ok := ce_ok mixedP Try.func22 (by kernel_rfl) (orcOf_ok ferry_Take_3_tb) (dr := ferry_Take_3_dr) (lps := lpsOf lt0) (lps_fn (no_loop (by kernel_rfl))) (fun d dh => by kernel_rfl)

def ferry_right_3_tb : List (CEp) := []
def ferry_right_3 (x0 : DLetter) : Option (Bool × Unit) :=
  (bif (decide ((x0.kind : Int) = 5)) then
  (bif (decide ((0 : Int) ≤ x0.size)) then
  (bif (decide ((x0.size : Int) ≤ 131072)) then
  (bif (decide ((0 : Int) ≤ x0.at_)) then
  (bif (decide ((x0.at_ : Int) ≤ x0.size)) then
  let y1 : Bool := (decide (((x0.bytes.length : Int) : Int) ≤ (IntKind.i64.wrap (x0.size - x0.at_))))
  some (y1, ())
  else
  some (false, ()))
  else
  some (false, ()))
  else
  some (false, ()))
  else
  some (false, ()))
  else
  some (false, ()))
def ferry_right_3_ce : CEp where
  f := 46
  args := [.cod 20]
  hs := []
  res := .val (.one (.bool))
  outs := []
  m := fun d dh => ferry_right_3 d.1
  ok := ceO Try.func46 (by kernel_rfl) ferry_right_3_tb (by kernel_rfl) fun d dh => by kernel_rfl

def ferry_of_3_tb : List (CEp) := []
def ferry_of_3 (x0 : DLetter) : Option ((DCrossing) × Unit) :=
  some ((⟨x0.term_, x0.base.index, x0.base.term_, x0.size⟩ : DCrossing), ())
def ferry_of_3_ce : CEp where
  f := 47
  args := [.cod 20]
  hs := []
  res := .val (.cod 21)
  outs := []
  m := fun d dh => ferry_of_3 d.1
  ok := ceO Try.func47 (by kernel_rfl) ferry_of_3_tb (by kernel_rfl) fun d dh => by kernel_rfl

def ferry_lay_3_tb : List (CEp) := []
def ferry_lay_3 (x1 : LB) (h0 : Int × Int × Int × Int × Bool × Bool × Nat × Unit) (h1 : LB) : Option (Unit × ((Int × Int × Int × Int × Bool × Bool × Nat × Unit) × Unit × LB × Unit)) :=
  (if (h0.2.2.2.2.2.2.1 + x1.length) ≤ 140737488355328 ∧ (h0.2.2.2.2.2.2.1 + x1.length) * 1 ≤ 140737488355328 ∧ 0 + h0.2.2.2.2.2.2.1 ≤ h1.length then
  some ((), ((h0.1, h0.2.1, h0.2.2.1, h0.2.2.2.1, h0.2.2.2.2.1, h0.2.2.2.2.2.1, (h0.2.2.2.2.2.2.1 + x1.length), ()), (), (h1.take h0.2.2.2.2.2.2.1 ++ x1), ()))
  else none)
def ferry_lay_3_ce : CEp where
  f := 48
  args := [.one (.ptr 0 0), .one (.sl 1)]
  hs := [.obj 56 [.int .i64, .int .i64, .int .i64, .int .i64, .bool, .bool, .asz 1 1], .arr 5 1 false]
  res := .tup []
  outs := [.obj 56 [.int .i64, .int .i64, .int .i64, .int .i64, .bool, .bool, .asz 1 2], .dead, .arr 5 1 false]
  m := fun d dh => ferry_lay_3 d.2.1 dh.1 dh.2.1
  ok := ceO Try.func48 (by kernel_rfl) ferry_lay_3_tb (by kernel_rfl) fun d dh => by kernel_rfl

def ferry_Take_4_dr : Nat → Nat → DrA
  | 2, _ => ⟨[1, 2, 0, 3], [[], [], [1], [0, 1, 2]], [], [], [], false, []⟩
  | 3, _ => ⟨(List.range 14), [[], [0], [0, 1], [0, 1, 2], [0, 1, 2, 3], (List.range 5), (List.range 6), (List.range 7), (List.range 8), (List.range 9), (List.range 6), (List.range 6 ++ [10]), (List.range 12), (List.range 13)], [9], [11], [0], false, []⟩
  | 5, _ => ⟨[1, 2, 0, 3], [[], [], [1], [0, 1, 2]], [], [], [], false, []⟩
  | 8, _ => ⟨[0, 2, 3, 4, 1, 5, 6, 7], [[], [0], [], [2], [2, 3], [2, 3, 4], [2, 3, 4, 5], (List.range 7)], [], [], [], false, []⟩
  | 9, _ => ⟨[0, 1, 3, 4, 5, 8, 11, 2, 6, 7, 9, 10, 12, 13, 14, 15, 16], [[], [], [1], [], [3], [3, 4], [3, 4, 5], [3, 4, 5, 6], [], [8], [3, 4, 5, 6, 7, 8, 9], [], [11], [11, 12], [3, 4, 5, 6, 7, 8, 9, 10, 11, 12, 13], [1, 2, 3, 4, 5, 6, 7, 8, 9, 10, 11, 12, 13, 14], (List.range 16)], [], [], [], false, []⟩
  | 12, _ => ⟨[0, 2, 3, 1, 4], [[], [], [0], [0, 2], [0, 1, 2, 3]], [], [], [], false, []⟩
  | 13, _ => ⟨[0, 3, 4, 5, 1, 6, 2, 7, 8], [[], [0], [0, 1], [], [3], [3, 4], [3, 4, 5], (List.range 7), (List.range 8)], [6], [2], [0], false, []⟩
  | 15, _ => ⟨[0, 2, 3, 1, 4], [[], [], [0], [0, 2], [0, 1, 2, 3]], [], [], [], false, []⟩
  | _, _ => ⟨[], [], [], [], [], false, []⟩
def ferry_Take_4_tb : List (CEp) := [ferry_right_3_ce, ferry_Drop_ce, ferry_of_3_ce, ferry_lay_3_ce, ferry_own_ce]
def ferry_Take_4 (x1 : DLetter) (h0 : Int × Int × Int × Int × Bool × Bool × Nat × Unit) (h1 : LB) : Option ((Int × Bool × (Int × Int × Nat × Nat × Nat × Nat × Nat × Unit) × Unit) × ((Int × Int × Int × Int × Bool × Bool × Nat × Unit) × Unit × LI × LI × LI × LI × LB × LB × Unit)) :=
  (bif (!h0.2.2.2.2.1) then
  some ((0, false, (0, 0, 0, 0, 0, 0, 0, ()), ()), ((h0.1, h0.2.1, h0.2.2.1, h0.2.2.2.1, h0.2.2.2.2.1, h0.2.2.2.2.2.1, h0.2.2.2.2.2.2.1, ()), (), [], [], [], [], [], h1, ()))
  else
  (ferry_right_3 x1).bind fun r1 =>
  (bif (!r1.1) then
  some ((0, false, (0, 0, 0, 0, 0, 0, 0, ()), ()), ((h0.1, h0.2.1, h0.2.2.1, h0.2.2.2.1, h0.2.2.2.2.1, h0.2.2.2.2.2.1, h0.2.2.2.2.2.2.1, ()), (), [], [], [], [], [], h1, ()))
  else
  (bif (!h0.2.2.2.2.2.1) then
  (bif (decide ((x1.at_ : Int) ≠ 0)) then
  some ((0, false, (0, 0, 0, 0, 0, 0, 0, ()), ()), ((h0.1, h0.2.1, h0.2.2.1, h0.2.2.2.1, h0.2.2.2.2.1, h0.2.2.2.2.2.1, h0.2.2.2.2.2.2.1, ()), (), [], [], [], [], [], h1, ()))
  else
  (ferry_Drop (h0.1, h0.2.1, h0.2.2.1, h0.2.2.2.1, h0.2.2.2.2.1, h0.2.2.2.2.2.1, (), ())).bind fun r2 =>
  (ferry_of_3 x1).bind fun r3 =>
  (bif (decide ((x1.at_ : Int) ≤ ((r2.2.1.2.2.2.2.2.2.1 : Nat) : Int))) then
  let y4 : Int := (if ((x1.bytes.length : Int) : Int) < (IntKind.i64.wrap (((r2.2.1.2.2.2.2.2.2.1 : Nat) : Int) - x1.at_)) then (x1.bytes.length : Int) else (IntKind.i64.wrap (((r2.2.1.2.2.2.2.2.2.1 : Nat) : Int) - x1.at_)))
  (if 0 ≤ (y4 : Int) ∧ (y4 : Int) ≤ (x1.bytes.length : Int) ∧ (x1.bytes.length : Int) ≤ (x1.bytes.length : Int) then
  let y5 : LB := ((x1.bytes.drop (y4 : Int).toNat).take (((x1.bytes.length : Int) : Int).toNat - (y4 : Int).toNat))
  (ferry_lay_3 y5 (r3.1.term_, r3.1.index, r3.1.base, r3.1.size, r2.2.1.2.2.2.2.1, true, r2.2.1.2.2.2.2.2.2.1, ()) r2.2.2.1).bind fun r6 =>
  (bif (decide ((((r6.2.1.2.2.2.2.2.2.1 : Nat) : Int) : Int) < r6.2.1.2.2.2.1)) then
  some ((((r6.2.1.2.2.2.2.2.2.1 : Nat) : Int), false, (0, 0, 0, 0, 0, 0, 0, ()), ()), ((r6.2.1.1, r6.2.1.2.1, r6.2.1.2.2.1, r6.2.1.2.2.2.1, r6.2.1.2.2.2.2.1, r6.2.1.2.2.2.2.2.1, r6.2.1.2.2.2.2.2.2.1, ()), (), [], [], [], [], [], r6.2.2.2.1, ()))
  else
  (ferry_own x1.base).bind fun r7 =>
  (ferry_Drop (r6.2.1.1, r6.2.1.2.1, r6.2.1.2.2.1, r6.2.1.2.2.2.1, r6.2.1.2.2.2.2.1, r6.2.1.2.2.2.2.2.1, (), ())).bind fun r8 =>
  some ((((r6.2.1.2.2.2.2.2.2.1 : Nat) : Int), true, (r7.1.1, r7.1.2.1, r7.1.2.2.1, r7.1.2.2.2.1, r7.1.2.2.2.2.1, r7.1.2.2.2.2.2.1, r6.2.1.2.2.2.2.2.2.1, ()), ()), ((r8.2.1.1, r8.2.1.2.1, r8.2.1.2.2.1, r8.2.1.2.2.2.1, r8.2.1.2.2.2.2.1, r8.2.1.2.2.2.2.2.1, r8.2.1.2.2.2.2.2.2.1, ()), (), r7.2.1, r7.2.2.1, r7.2.2.2.1, r7.2.2.2.2.1, r6.2.2.2.1, r8.2.2.1, ())))
  else none)
  else
  (bif (decide ((((r2.2.1.2.2.2.2.2.2.1 : Nat) : Int) : Int) < r3.1.size)) then
  some ((((r2.2.1.2.2.2.2.2.2.1 : Nat) : Int), false, (0, 0, 0, 0, 0, 0, 0, ()), ()), ((r3.1.term_, r3.1.index, r3.1.base, r3.1.size, r2.2.1.2.2.2.2.1, true, r2.2.1.2.2.2.2.2.2.1, ()), (), [], [], [], [], [], r2.2.2.1, ()))
  else
  (ferry_own x1.base).bind fun r9 =>
  (ferry_Drop (r3.1.term_, r3.1.index, r3.1.base, r3.1.size, r2.2.1.2.2.2.2.1, true, (), ())).bind fun r10 =>
  some ((((r2.2.1.2.2.2.2.2.2.1 : Nat) : Int), true, (r9.1.1, r9.1.2.1, r9.1.2.2.1, r9.1.2.2.2.1, r9.1.2.2.2.2.1, r9.1.2.2.2.2.2.1, r2.2.1.2.2.2.2.2.2.1, ()), ()), ((r10.2.1.1, r10.2.1.2.1, r10.2.1.2.2.1, r10.2.1.2.2.2.1, r10.2.1.2.2.2.2.1, r10.2.1.2.2.2.2.2.1, r10.2.1.2.2.2.2.2.2.1, ()), (), r9.2.1, r9.2.2.1, r9.2.2.2.1, r9.2.2.2.2.1, r2.2.2.1, r10.2.2.1, ())))))
  else
  (ferry_of_3 x1).bind fun r11 =>
  (bif (!(decide ((h0.1 : Int) = r11.1.term_) && (decide ((h0.2.1 : Int) = r11.1.index) && (decide ((h0.2.2.1 : Int) = r11.1.base) && (decide ((h0.2.2.2.1 : Int) = r11.1.size) && true))))) then
  (bif (decide ((x1.at_ : Int) ≠ 0)) then
  some ((0, false, (0, 0, 0, 0, 0, 0, 0, ()), ()), ((h0.1, h0.2.1, h0.2.2.1, h0.2.2.2.1, h0.2.2.2.2.1, h0.2.2.2.2.2.1, h0.2.2.2.2.2.2.1, ()), (), [], [], [], [], [], h1, ()))
  else
  (ferry_Drop (h0.1, h0.2.1, h0.2.2.1, h0.2.2.2.1, h0.2.2.2.2.1, h0.2.2.2.2.2.1, (), ())).bind fun r12 =>
  (ferry_of_3 x1).bind fun r13 =>
  (bif (decide ((x1.at_ : Int) ≤ ((r12.2.1.2.2.2.2.2.2.1 : Nat) : Int))) then
  let y14 : Int := (if ((x1.bytes.length : Int) : Int) < (IntKind.i64.wrap (((r12.2.1.2.2.2.2.2.2.1 : Nat) : Int) - x1.at_)) then (x1.bytes.length : Int) else (IntKind.i64.wrap (((r12.2.1.2.2.2.2.2.2.1 : Nat) : Int) - x1.at_)))
  (if 0 ≤ (y14 : Int) ∧ (y14 : Int) ≤ (x1.bytes.length : Int) ∧ (x1.bytes.length : Int) ≤ (x1.bytes.length : Int) then
  let y15 : LB := ((x1.bytes.drop (y14 : Int).toNat).take (((x1.bytes.length : Int) : Int).toNat - (y14 : Int).toNat))
  (ferry_lay_3 y15 (r13.1.term_, r13.1.index, r13.1.base, r13.1.size, r12.2.1.2.2.2.2.1, true, r12.2.1.2.2.2.2.2.2.1, ()) r12.2.2.1).bind fun r16 =>
  (bif (decide ((((r16.2.1.2.2.2.2.2.2.1 : Nat) : Int) : Int) < r16.2.1.2.2.2.1)) then
  some ((((r16.2.1.2.2.2.2.2.2.1 : Nat) : Int), false, (0, 0, 0, 0, 0, 0, 0, ()), ()), ((r16.2.1.1, r16.2.1.2.1, r16.2.1.2.2.1, r16.2.1.2.2.2.1, r16.2.1.2.2.2.2.1, r16.2.1.2.2.2.2.2.1, r16.2.1.2.2.2.2.2.2.1, ()), (), [], [], [], [], [], r16.2.2.2.1, ()))
  else
  (ferry_own x1.base).bind fun r17 =>
  (ferry_Drop (r16.2.1.1, r16.2.1.2.1, r16.2.1.2.2.1, r16.2.1.2.2.2.1, r16.2.1.2.2.2.2.1, r16.2.1.2.2.2.2.2.1, (), ())).bind fun r18 =>
  some ((((r16.2.1.2.2.2.2.2.2.1 : Nat) : Int), true, (r17.1.1, r17.1.2.1, r17.1.2.2.1, r17.1.2.2.2.1, r17.1.2.2.2.2.1, r17.1.2.2.2.2.2.1, r16.2.1.2.2.2.2.2.2.1, ()), ()), ((r18.2.1.1, r18.2.1.2.1, r18.2.1.2.2.1, r18.2.1.2.2.2.1, r18.2.1.2.2.2.2.1, r18.2.1.2.2.2.2.2.1, r18.2.1.2.2.2.2.2.2.1, ()), (), r17.2.1, r17.2.2.1, r17.2.2.2.1, r17.2.2.2.2.1, r16.2.2.2.1, r18.2.2.1, ())))
  else none)
  else
  (bif (decide ((((r12.2.1.2.2.2.2.2.2.1 : Nat) : Int) : Int) < r13.1.size)) then
  some ((((r12.2.1.2.2.2.2.2.2.1 : Nat) : Int), false, (0, 0, 0, 0, 0, 0, 0, ()), ()), ((r13.1.term_, r13.1.index, r13.1.base, r13.1.size, r12.2.1.2.2.2.2.1, true, r12.2.1.2.2.2.2.2.2.1, ()), (), [], [], [], [], [], r12.2.2.1, ()))
  else
  (ferry_own x1.base).bind fun r19 =>
  (ferry_Drop (r13.1.term_, r13.1.index, r13.1.base, r13.1.size, r12.2.1.2.2.2.2.1, true, (), ())).bind fun r20 =>
  some ((((r12.2.1.2.2.2.2.2.2.1 : Nat) : Int), true, (r19.1.1, r19.1.2.1, r19.1.2.2.1, r19.1.2.2.2.1, r19.1.2.2.2.2.1, r19.1.2.2.2.2.2.1, r12.2.1.2.2.2.2.2.2.1, ()), ()), ((r20.2.1.1, r20.2.1.2.1, r20.2.1.2.2.1, r20.2.1.2.2.2.1, r20.2.1.2.2.2.2.1, r20.2.1.2.2.2.2.2.1, r20.2.1.2.2.2.2.2.2.1, ()), (), r19.2.1, r19.2.2.1, r19.2.2.2.1, r19.2.2.2.2.1, r12.2.2.1, r20.2.2.1, ())))))
  else
  (bif (decide ((x1.at_ : Int) ≤ ((h0.2.2.2.2.2.2.1 : Nat) : Int))) then
  let y21 : Int := (if ((x1.bytes.length : Int) : Int) < (IntKind.i64.wrap (((h0.2.2.2.2.2.2.1 : Nat) : Int) - x1.at_)) then (x1.bytes.length : Int) else (IntKind.i64.wrap (((h0.2.2.2.2.2.2.1 : Nat) : Int) - x1.at_)))
  (if 0 ≤ (y21 : Int) ∧ (y21 : Int) ≤ (x1.bytes.length : Int) ∧ (x1.bytes.length : Int) ≤ (x1.bytes.length : Int) then
  let y22 : LB := ((x1.bytes.drop (y21 : Int).toNat).take (((x1.bytes.length : Int) : Int).toNat - (y21 : Int).toNat))
  (ferry_lay_3 y22 (h0.1, h0.2.1, h0.2.2.1, h0.2.2.2.1, h0.2.2.2.2.1, h0.2.2.2.2.2.1, h0.2.2.2.2.2.2.1, ()) h1).bind fun r23 =>
  (bif (decide ((((r23.2.1.2.2.2.2.2.2.1 : Nat) : Int) : Int) < r23.2.1.2.2.2.1)) then
  some ((((r23.2.1.2.2.2.2.2.2.1 : Nat) : Int), false, (0, 0, 0, 0, 0, 0, 0, ()), ()), ((r23.2.1.1, r23.2.1.2.1, r23.2.1.2.2.1, r23.2.1.2.2.2.1, r23.2.1.2.2.2.2.1, r23.2.1.2.2.2.2.2.1, r23.2.1.2.2.2.2.2.2.1, ()), (), [], [], [], [], [], r23.2.2.2.1, ()))
  else
  (ferry_own x1.base).bind fun r24 =>
  (ferry_Drop (r23.2.1.1, r23.2.1.2.1, r23.2.1.2.2.1, r23.2.1.2.2.2.1, r23.2.1.2.2.2.2.1, r23.2.1.2.2.2.2.2.1, (), ())).bind fun r25 =>
  some ((((r23.2.1.2.2.2.2.2.2.1 : Nat) : Int), true, (r24.1.1, r24.1.2.1, r24.1.2.2.1, r24.1.2.2.2.1, r24.1.2.2.2.2.1, r24.1.2.2.2.2.2.1, r23.2.1.2.2.2.2.2.2.1, ()), ()), ((r25.2.1.1, r25.2.1.2.1, r25.2.1.2.2.1, r25.2.1.2.2.2.1, r25.2.1.2.2.2.2.1, r25.2.1.2.2.2.2.2.1, r25.2.1.2.2.2.2.2.2.1, ()), (), r24.2.1, r24.2.2.1, r24.2.2.2.1, r24.2.2.2.2.1, r23.2.2.2.1, r25.2.2.1, ())))
  else none)
  else
  (bif (decide ((((h0.2.2.2.2.2.2.1 : Nat) : Int) : Int) < h0.2.2.2.1)) then
  some ((((h0.2.2.2.2.2.2.1 : Nat) : Int), false, (0, 0, 0, 0, 0, 0, 0, ()), ()), ((h0.1, h0.2.1, h0.2.2.1, h0.2.2.2.1, h0.2.2.2.2.1, h0.2.2.2.2.2.1, h0.2.2.2.2.2.2.1, ()), (), [], [], [], [], [], h1, ()))
  else
  (ferry_own x1.base).bind fun r26 =>
  (ferry_Drop (h0.1, h0.2.1, h0.2.2.1, h0.2.2.2.1, h0.2.2.2.2.1, h0.2.2.2.2.2.1, (), ())).bind fun r27 =>
  some ((((h0.2.2.2.2.2.2.1 : Nat) : Int), true, (r26.1.1, r26.1.2.1, r26.1.2.2.1, r26.1.2.2.2.1, r26.1.2.2.2.2.1, r26.1.2.2.2.2.2.1, h0.2.2.2.2.2.2.1, ()), ()), ((r27.2.1.1, r27.2.1.2.1, r27.2.1.2.2.1, r27.2.1.2.2.2.1, r27.2.1.2.2.2.2.1, r27.2.1.2.2.2.2.2.1, r27.2.1.2.2.2.2.2.2.1, ()), (), r26.2.1, r26.2.2.1, r26.2.2.2.1, r26.2.2.2.2.1, h1, r27.2.2.1, ()))))))))
def ferry_Take_4_ce : CEp where
  f := 22
  args := [.one (.ptr 0 0), .cod 20]
  hs := [.obj 56 [.int .i64, .int .i64, .int .i64, .int .i64, .bool, .bool, .asz 1 1], .arr 5 1 false]
  res := .tup [.one (.int .i64), .one (.bool), .agg [.int .i64, .int .i64, .asz 0 2, .asz 0 3, .asz 0 4, .asz 0 5, .asz 1 6]]
  outs := [.obj 56 [.int .i64, .int .i64, .int .i64, .int .i64, .bool, .bool, .asz 1 7], .dead, .arr 3 0 false, .arr 3 0 false, .arr 3 0 false, .arr 3 0 false, .arr 5 1 false, .arr 5 1 false]
  m := fun d dh => ferry_Take_4 d.2.1 dh.1 dh.2.1
  ok := ce_ok mixedP Try.func22 (by kernel_rfl) (orcOf_ok ferry_Take_4_tb) (dr := ferry_Take_4_dr) (lps := lpsOf lt0) (lps_fn (no_loop (by kernel_rfl))) (fun d dh => by kernel_rfl)

def wk_SameBase_4_tb : List (CEp) := [wk_SameConfig_2_ce]
def wk_SameBase_4 (x0 : DBase) (x1 : DBase) : Option (Bool × Unit) :=
  (bif (decide ((x0.index : Int) = x1.index)) then
  (bif (decide ((x0.term_ : Int) = x1.term_)) then
  (wk_SameConfig_2 x0.config x1.config).bind fun r1 =>
  some (r1.1, ())
  else
  some (false, ()))
  else
  some (false, ()))
def wk_SameBase_4_ce : CEp where
  f := 38
  args := [.cod 14, .cod 14]
  hs := []
  res := .val (.one (.bool))
  outs := []
  m := fun d dh => wk_SameBase_4 d.1 d.2.1
  ok := ceO Try.func38 (by kernel_rfl) wk_SameBase_4_tb (by kernel_rfl) fun d dh => by kernel_rfl

def wk_SameImage_4_tb : List (CEp) := [wk_SameBase_4_ce, wk_SameBytes_2_ce]
def wk_SameImage_4 (x0 : DImage) (x1 : DImage) : Option (Bool × Unit) :=
  (wk_SameBase_4 x0.base x1.base).bind fun r1 =>
  (bif r1.1 then
  (wk_SameBytes_2 x0.bytes x1.bytes).bind fun r2 =>
  some (r2.1, ())
  else
  some (false, ()))
def wk_SameImage_4_ce : CEp where
  f := 24
  args := [.cod 16, .cod 16]
  hs := []
  res := .val (.one (.bool))
  outs := []
  m := fun d dh => wk_SameImage_4 d.1 d.2.1
  ok := ceO Try.func24 (by kernel_rfl) wk_SameImage_4_tb (by kernel_rfl) fun d dh => by kernel_rfl

def wl_FerryTakes_dr : Nat → Nat → DrA
  | 15, _ => ⟨(List.range 15 ++ [16, 17, 18, 15, 19, 20, 21, 22]), [[], [], [0, 1], [0, 1, 2], [0, 1, 2, 3], [0, 1, 2, 3], (List.range 6), (List.range 7), (List.range 8), (List.range 9), (List.range 9), (List.range 11), (List.range 12), (List.range 13), (List.range 14), (List.range 15), (List.range 15), (List.range 15), (List.range 15 ++ [16, 17]), (List.range 15 ++ [16, 17, 18]), (List.range 20), (List.range 21), (List.range 22)], [], [], [], false, []⟩
  | _, _ => ⟨[], [], [], [], [], false, []⟩
def wl_FerryTakes_tb : List (CEp) := [wl_awake_ce, wl_great_ce, ferry_New_ce, w13_New_ce, ferry_Drop_ce, w13_Drop_ce, wk_LentLetter_ce, ferry_Take_2_ce, w13_Take_ce, wk_SameImage_3_ce, wk_KeptLetter_ce, wk_OverLetter_2_ce, wk_OverImage_ce, ferry_Drop_2_ce, ferry_Take_3_ce, ferry_Take_4_ce, wk_SameImage_4_ce]
def wl_FerryTakes_l1 (a : ((List (DLetter)) × Int × Unit × Unit × Int × Unit) × ((Int × Int × Int × Int × Bool × Bool × Nat × Unit) × (Bool × Int × Int × Int × Int × LB × Unit) × LB × Unit × Unit)) : Option ((((List (DLetter)) × Int × Unit × Unit × Int × Unit) × ((Int × Int × Int × Int × Bool × Bool × Nat × Unit) × (Bool × Int × Int × Int × Int × LB × Unit) × LB × Unit × Unit)) ⊕ (((Bool × Unit) × ((Int × Int × Int × Int × Bool × Bool × Nat × Unit) × (Bool × Int × Int × Int × Int × LB × Unit) × Unit × Unit × LB × Unit × Unit)) ⊕ (Unit × ((Int × Int × Int × Int × Bool × Bool × Nat × Unit) × (Bool × Int × Int × Int × Int × LB × Unit) × Unit × Unit × LB × Unit × Unit)))) :=
  (bif (decide ((a.1.2.2.2.2.1 : Int) < (a.1.1.length : Int))) then
  (bif (decide ((a.1.2.2.2.2.1 : Int) = a.1.2.1)) then
  (ferry_Drop (a.2.1.1, a.2.1.2.1, a.2.1.2.2.1, a.2.1.2.2.2.1, a.2.1.2.2.2.2.1, a.2.1.2.2.2.2.2.1, (), ())).bind fun r1 =>
  (w13_Drop (a.2.2.1.1, a.2.2.1.2.1, a.2.2.1.2.2.1, a.2.2.1.2.2.2.1, a.2.2.1.2.2.2.2.1, a.2.2.1.2.2.2.2.2.1, ())).bind fun r2 =>
  (getI a.1.1 a.1.2.2.2.2.1).bind fun e3 =>
  (wk_LentLetter e3).bind fun r4 =>
  (ferry_Take_2 (r4.1.1, r4.1.2.1, r4.1.2.2.1, r4.1.2.2.2.1, r4.1.2.2.2.2.1, r4.1.2.2.2.2.2.1, r4.1.2.2.2.2.2.2.1, r4.1.2.2.2.2.2.2.2.1, r4.1.2.2.2.2.2.2.2.2.1, (r4.1.2.2.2.2.2.2.2.2.2.1.1, r4.1.2.2.2.2.2.2.2.2.2.1.2.1, r4.1.2.2.2.2.2.2.2.2.2.1.2.2.1, ()), r4.1.2.2.2.2.2.2.2.2.2.2.1, r4.1.2.2.2.2.2.2.2.2.2.2.2.1, (r4.1.2.2.2.2.2.2.2.2.2.2.2.2.1.1, r4.1.2.2.2.2.2.2.2.2.2.2.2.2.1.2.1, r4.1.2.2.2.2.2.2.2.2.2.2.2.2.1.2.2), (r4.1.2.2.2.2.2.2.2.2.2.2.2.2.2.1.1, r4.1.2.2.2.2.2.2.2.2.2.2.2.2.2.1.2.1, r4.1.2.2.2.2.2.2.2.2.2.2.2.2.2.1.2.2), (r4.1.2.2.2.2.2.2.2.2.2.2.2.2.2.2.1.1, r4.1.2.2.2.2.2.2.2.2.2.2.2.2.2.2.1.2.1, r4.1.2.2.2.2.2.2.2.2.2.2.2.2.2.2.1.2.2), (r4.1.2.2.2.2.2.2.2.2.2.2.2.2.2.2.2.1.1, r4.1.2.2.2.2.2.2.2.2.2.2.2.2.2.2.2.1.2.1, r4.1.2.2.2.2.2.2.2.2.2.2.2.2.2.2.2.1.2.2), r4.1.2.2.2.2.2.2.2.2.2.2.2.2.2.2.2.2.1, r4.1.2.2.2.2.2.2.2.2.2.2.2.2.2.2.2.2.2.1, r4.1.2.2.2.2.2.2.2.2.2.2.2.2.2.2.2.2.2.2.1, (r4.1.2.2.2.2.2.2.2.2.2.2.2.2.2.2.2.2.2.2.2.1.1, r4.1.2.2.2.2.2.2.2.2.2.2.2.2.2.2.2.2.2.2.2.1.2.1, r4.1.2.2.2.2.2.2.2.2.2.2.2.2.2.2.2.2.2.2.2.1.2.2), ()) (r1.2.1.1, r1.2.1.2.1, r1.2.1.2.2.1, r1.2.1.2.2.2.1, r1.2.1.2.2.2.2.1, r1.2.1.2.2.2.2.2.1, r1.2.1.2.2.2.2.2.2.1, ()) r4.2.1 r4.2.2.1 r4.2.2.2.1 r4.2.2.2.2.1 r4.2.2.2.2.2.1 r4.2.2.2.2.2.2.1 r1.2.2.1).bind fun r5 =>
  (getI a.1.1 a.1.2.2.2.2.1).bind fun e6 =>
  (w13_Take e6 (r2.2.1.1, r2.2.1.2.1, r2.2.1.2.2.1, r2.2.1.2.2.2.1, r2.2.1.2.2.2.2.1, r2.2.1.2.2.2.2.2.1, ())).bind fun r7 =>
  (bif (decide ((r5.1.1 : Int) ≠ r7.1.1)) then
  some (.inr (.inl ((false, ()), ((r5.2.1.1, r5.2.1.2.1, r5.2.1.2.2.1, r5.2.1.2.2.2.1, r5.2.1.2.2.2.2.1, r5.2.1.2.2.2.2.2.1, r5.2.1.2.2.2.2.2.2.1, ()), (r7.2.1.1, r7.2.1.2.1, r7.2.1.2.2.1, r7.2.1.2.2.2.1, r7.2.1.2.2.2.2.1, r7.2.1.2.2.2.2.2.1, ()), (), (), r5.2.2.2.2.2.2.2.2.2.2.2.2.2.2.1, (), ()))))
  else
  (bif (decide (r5.1.2.1 ≠ r7.1.2.1)) then
  some (.inr (.inl ((false, ()), ((r5.2.1.1, r5.2.1.2.1, r5.2.1.2.2.1, r5.2.1.2.2.2.1, r5.2.1.2.2.2.2.1, r5.2.1.2.2.2.2.2.1, r5.2.1.2.2.2.2.2.2.1, ()), (r7.2.1.1, r7.2.1.2.1, r7.2.1.2.2.1, r7.2.1.2.2.2.1, r7.2.1.2.2.2.2.1, r7.2.1.2.2.2.2.2.1, ()), (), (), r5.2.2.2.2.2.2.2.2.2.2.2.2.2.2.1, (), ()))))
  else
  (wk_SameImage_3 (r5.1.2.2.1.1, r5.1.2.2.1.2.1, r5.1.2.2.1.2.2.1, r5.1.2.2.1.2.2.2.1, r5.1.2.2.1.2.2.2.2.1, r5.1.2.2.1.2.2.2.2.2.1, r5.1.2.2.1.2.2.2.2.2.2.1, ()) r7.1.2.2.1 r5.2.2.2.2.2.2.2.2.2.1 r5.2.2.2.2.2.2.2.2.2.2.1 r5.2.2.2.2.2.2.2.2.2.2.2.1 r5.2.2.2.2.2.2.2.2.2.2.2.2.1 r5.2.2.2.2.2.2.2.2.2.2.2.2.2.1).bind fun r8 =>
  (bif (!r8.1) then
  some (.inr (.inl ((false, ()), ((r5.2.1.1, r5.2.1.2.1, r5.2.1.2.2.1, r5.2.1.2.2.2.1, r5.2.1.2.2.2.2.1, r5.2.1.2.2.2.2.2.1, r5.2.1.2.2.2.2.2.2.1, ()), (r7.2.1.1, r7.2.1.2.1, r7.2.1.2.2.1, r7.2.1.2.2.2.1, r7.2.1.2.2.2.2.1, r7.2.1.2.2.2.2.2.1, ()), (), (), r5.2.2.2.2.2.2.2.2.2.2.2.2.2.2.1, (), ()))))
  else
  (getI a.1.1 a.1.2.2.2.2.1).bind fun e9 =>
  (wk_KeptLetter (r4.1.1, r4.1.2.1, r4.1.2.2.1, r4.1.2.2.2.1, r4.1.2.2.2.2.1, r4.1.2.2.2.2.2.1, r4.1.2.2.2.2.2.2.1, r4.1.2.2.2.2.2.2.2.1, r4.1.2.2.2.2.2.2.2.2.1, (r4.1.2.2.2.2.2.2.2.2.2.1.1, r4.1.2.2.2.2.2.2.2.2.2.1.2.1, r4.1.2.2.2.2.2.2.2.2.2.1.2.2.1, ()), r4.1.2.2.2.2.2.2.2.2.2.2.1, r4.1.2.2.2.2.2.2.2.2.2.2.2.1, (r4.1.2.2.2.2.2.2.2.2.2.2.2.2.1.1, r4.1.2.2.2.2.2.2.2.2.2.2.2.2.1.2.1, r4.1.2.2.2.2.2.2.2.2.2.2.2.2.1.2.2), (r4.1.2.2.2.2.2.2.2.2.2.2.2.2.2.1.1, r4.1.2.2.2.2.2.2.2.2.2.2.2.2.2.1.2.1, r4.1.2.2.2.2.2.2.2.2.2.2.2.2.2.1.2.2), (r4.1.2.2.2.2.2.2.2.2.2.2.2.2.2.2.1.1, r4.1.2.2.2.2.2.2.2.2.2.2.2.2.2.2.1.2.1, r4.1.2.2.2.2.2.2.2.2.2.2.2.2.2.2.1.2.2), (r4.1.2.2.2.2.2.2.2.2.2.2.2.2.2.2.2.1.1, r4.1.2.2.2.2.2.2.2.2.2.2.2.2.2.2.2.1.2.1, r4.1.2.2.2.2.2.2.2.2.2.2.2.2.2.2.2.1.2.2), r4.1.2.2.2.2.2.2.2.2.2.2.2.2.2.2.2.2.1, r4.1.2.2.2.2.2.2.2.2.2.2.2.2.2.2.2.2.2.1, r4.1.2.2.2.2.2.2.2.2.2.2.2.2.2.2.2.2.2.2.1, (r4.1.2.2.2.2.2.2.2.2.2.2.2.2.2.2.2.2.2.2.2.1.1, r4.1.2.2.2.2.2.2.2.2.2.2.2.2.2.2.2.2.2.2.2.1.2.1, r4.1.2.2.2.2.2.2.2.2.2.2.2.2.2.2.2.2.2.2.2.1.2.2), ()) e9 r5.2.2.1 r5.2.2.2.1 r5.2.2.2.2.1 r5.2.2.2.2.2.1 r5.2.2.2.2.2.2.1 r5.2.2.2.2.2.2.2.1).bind fun r10 =>
  (bif (!r10.1) then
  some (.inr (.inl ((false, ()), ((r5.2.1.1, r5.2.1.2.1, r5.2.1.2.2.1, r5.2.1.2.2.2.1, r5.2.1.2.2.2.2.1, r5.2.1.2.2.2.2.2.1, r5.2.1.2.2.2.2.2.2.1, ()), (r7.2.1.1, r7.2.1.2.1, r7.2.1.2.2.1, r7.2.1.2.2.2.1, r7.2.1.2.2.2.2.1, r7.2.1.2.2.2.2.2.1, ()), (), (), r5.2.2.2.2.2.2.2.2.2.2.2.2.2.2.1, (), ()))))
  else
  (wk_OverLetter_2 (r4.1.1, r4.1.2.1, r4.1.2.2.1, r4.1.2.2.2.1, r4.1.2.2.2.2.1, r4.1.2.2.2.2.2.1, r4.1.2.2.2.2.2.2.1, r4.1.2.2.2.2.2.2.2.1, r4.1.2.2.2.2.2.2.2.2.1, (r4.1.2.2.2.2.2.2.2.2.2.1.1, r4.1.2.2.2.2.2.2.2.2.2.1.2.1, r4.1.2.2.2.2.2.2.2.2.2.1.2.2.1, ()), r4.1.2.2.2.2.2.2.2.2.2.2.1, r4.1.2.2.2.2.2.2.2.2.2.2.2.1, (r4.1.2.2.2.2.2.2.2.2.2.2.2.2.1.1, r4.1.2.2.2.2.2.2.2.2.2.2.2.2.1.2.1, r4.1.2.2.2.2.2.2.2.2.2.2.2.2.1.2.2), (r4.1.2.2.2.2.2.2.2.2.2.2.2.2.2.1.1, r4.1.2.2.2.2.2.2.2.2.2.2.2.2.2.1.2.1, r4.1.2.2.2.2.2.2.2.2.2.2.2.2.2.1.2.2), (r4.1.2.2.2.2.2.2.2.2.2.2.2.2.2.2.1.1, r4.1.2.2.2.2.2.2.2.2.2.2.2.2.2.2.1.2.1, r4.1.2.2.2.2.2.2.2.2.2.2.2.2.2.2.1.2.2), (r4.1.2.2.2.2.2.2.2.2.2.2.2.2.2.2.2.1.1, r4.1.2.2.2.2.2.2.2.2.2.2.2.2.2.2.2.1.2.1, r4.1.2.2.2.2.2.2.2.2.2.2.2.2.2.2.2.1.2.2), r4.1.2.2.2.2.2.2.2.2.2.2.2.2.2.2.2.2.1, r4.1.2.2.2.2.2.2.2.2.2.2.2.2.2.2.2.2.2.1, r4.1.2.2.2.2.2.2.2.2.2.2.2.2.2.2.2.2.2.2.1, (r4.1.2.2.2.2.2.2.2.2.2.2.2.2.2.2.2.2.2.2.2.1.1, r4.1.2.2.2.2.2.2.2.2.2.2.2.2.2.2.2.2.2.2.2.1.2.1, r4.1.2.2.2.2.2.2.2.2.2.2.2.2.2.2.2.2.2.2.2.1.2.2), ()) r10.2.1 r10.2.2.1 r10.2.2.2.1 r10.2.2.2.2.1 r10.2.2.2.2.2.1 r10.2.2.2.2.2.2.1).bind fun r11 =>
  (wk_OverImage (r5.1.2.2.1.1, r5.1.2.2.1.2.1, r5.1.2.2.1.2.2.1, r5.1.2.2.1.2.2.2.1, r5.1.2.2.1.2.2.2.2.1, r5.1.2.2.1.2.2.2.2.2.1, r5.1.2.2.1.2.2.2.2.2.2.1, ()) r8.2.1 r8.2.2.1 r8.2.2.2.1 r8.2.2.2.2.1 r8.2.2.2.2.2.1).bind fun r12 =>
  some (.inl ((a.1.1, a.1.2.1, (), (), (IntKind.i64.wrap (a.1.2.2.2.2.1 + 1)), ()), ((r5.2.1.1, r5.2.1.2.1, r5.2.1.2.2.1, r5.2.1.2.2.2.1, r5.2.1.2.2.2.2.1, r5.2.1.2.2.2.2.2.1, r5.2.1.2.2.2.2.2.2.1, ()), (r7.2.1.1, r7.2.1.2.1, r7.2.1.2.2.1, r7.2.1.2.2.2.1, r7.2.1.2.2.2.2.1, r7.2.1.2.2.2.2.2.1, ()), r5.2.2.2.2.2.2.2.2.2.2.2.2.2.2.1, (), ())))))))
  else
  (getI a.1.1 a.1.2.2.2.2.1).bind fun e13 =>
  (wk_LentLetter e13).bind fun r14 =>
  (ferry_Take_2 (r14.1.1, r14.1.2.1, r14.1.2.2.1, r14.1.2.2.2.1, r14.1.2.2.2.2.1, r14.1.2.2.2.2.2.1, r14.1.2.2.2.2.2.2.1, r14.1.2.2.2.2.2.2.2.1, r14.1.2.2.2.2.2.2.2.2.1, (r14.1.2.2.2.2.2.2.2.2.2.1.1, r14.1.2.2.2.2.2.2.2.2.2.1.2.1, r14.1.2.2.2.2.2.2.2.2.2.1.2.2.1, ()), r14.1.2.2.2.2.2.2.2.2.2.2.1, r14.1.2.2.2.2.2.2.2.2.2.2.2.1, (r14.1.2.2.2.2.2.2.2.2.2.2.2.2.1.1, r14.1.2.2.2.2.2.2.2.2.2.2.2.2.1.2.1, r14.1.2.2.2.2.2.2.2.2.2.2.2.2.1.2.2), (r14.1.2.2.2.2.2.2.2.2.2.2.2.2.2.1.1, r14.1.2.2.2.2.2.2.2.2.2.2.2.2.2.1.2.1, r14.1.2.2.2.2.2.2.2.2.2.2.2.2.2.1.2.2), (r14.1.2.2.2.2.2.2.2.2.2.2.2.2.2.2.1.1, r14.1.2.2.2.2.2.2.2.2.2.2.2.2.2.2.1.2.1, r14.1.2.2.2.2.2.2.2.2.2.2.2.2.2.2.1.2.2), (r14.1.2.2.2.2.2.2.2.2.2.2.2.2.2.2.2.1.1, r14.1.2.2.2.2.2.2.2.2.2.2.2.2.2.2.2.1.2.1, r14.1.2.2.2.2.2.2.2.2.2.2.2.2.2.2.2.1.2.2), r14.1.2.2.2.2.2.2.2.2.2.2.2.2.2.2.2.2.1, r14.1.2.2.2.2.2.2.2.2.2.2.2.2.2.2.2.2.2.1, r14.1.2.2.2.2.2.2.2.2.2.2.2.2.2.2.2.2.2.2.1, (r14.1.2.2.2.2.2.2.2.2.2.2.2.2.2.2.2.2.2.2.2.1.1, r14.1.2.2.2.2.2.2.2.2.2.2.2.2.2.2.2.2.2.2.2.1.2.1, r14.1.2.2.2.2.2.2.2.2.2.2.2.2.2.2.2.2.2.2.2.1.2.2), ()) (a.2.1.1, a.2.1.2.1, a.2.1.2.2.1, a.2.1.2.2.2.1, a.2.1.2.2.2.2.1, a.2.1.2.2.2.2.2.1, a.2.1.2.2.2.2.2.2.1, ()) r14.2.1 r14.2.2.1 r14.2.2.2.1 r14.2.2.2.2.1 r14.2.2.2.2.2.1 r14.2.2.2.2.2.2.1 a.2.2.2.1).bind fun r15 =>
  (getI a.1.1 a.1.2.2.2.2.1).bind fun e16 =>
  (w13_Take e16 (a.2.2.1.1, a.2.2.1.2.1, a.2.2.1.2.2.1, a.2.2.1.2.2.2.1, a.2.2.1.2.2.2.2.1, a.2.2.1.2.2.2.2.2.1, ())).bind fun r17 =>
  (bif (decide ((r15.1.1 : Int) ≠ r17.1.1)) then
  some (.inr (.inl ((false, ()), ((r15.2.1.1, r15.2.1.2.1, r15.2.1.2.2.1, r15.2.1.2.2.2.1, r15.2.1.2.2.2.2.1, r15.2.1.2.2.2.2.2.1, r15.2.1.2.2.2.2.2.2.1, ()), (r17.2.1.1, r17.2.1.2.1, r17.2.1.2.2.1, r17.2.1.2.2.2.1, r17.2.1.2.2.2.2.1, r17.2.1.2.2.2.2.2.1, ()), (), (), r15.2.2.2.2.2.2.2.2.2.2.2.2.2.2.1, (), ()))))
  else
  (bif (decide (r15.1.2.1 ≠ r17.1.2.1)) then
  some (.inr (.inl ((false, ()), ((r15.2.1.1, r15.2.1.2.1, r15.2.1.2.2.1, r15.2.1.2.2.2.1, r15.2.1.2.2.2.2.1, r15.2.1.2.2.2.2.2.1, r15.2.1.2.2.2.2.2.2.1, ()), (r17.2.1.1, r17.2.1.2.1, r17.2.1.2.2.1, r17.2.1.2.2.2.1, r17.2.1.2.2.2.2.1, r17.2.1.2.2.2.2.2.1, ()), (), (), r15.2.2.2.2.2.2.2.2.2.2.2.2.2.2.1, (), ()))))
  else
  (wk_SameImage_3 (r15.1.2.2.1.1, r15.1.2.2.1.2.1, r15.1.2.2.1.2.2.1, r15.1.2.2.1.2.2.2.1, r15.1.2.2.1.2.2.2.2.1, r15.1.2.2.1.2.2.2.2.2.1, r15.1.2.2.1.2.2.2.2.2.2.1, ()) r17.1.2.2.1 r15.2.2.2.2.2.2.2.2.2.1 r15.2.2.2.2.2.2.2.2.2.2.1 r15.2.2.2.2.2.2.2.2.2.2.2.1 r15.2.2.2.2.2.2.2.2.2.2.2.2.1 r15.2.2.2.2.2.2.2.2.2.2.2.2.2.1).bind fun r18 =>
  (bif (!r18.1) then
  some (.inr (.inl ((false, ()), ((r15.2.1.1, r15.2.1.2.1, r15.2.1.2.2.1, r15.2.1.2.2.2.1, r15.2.1.2.2.2.2.1, r15.2.1.2.2.2.2.2.1, r15.2.1.2.2.2.2.2.2.1, ()), (r17.2.1.1, r17.2.1.2.1, r17.2.1.2.2.1, r17.2.1.2.2.2.1, r17.2.1.2.2.2.2.1, r17.2.1.2.2.2.2.2.1, ()), (), (), r15.2.2.2.2.2.2.2.2.2.2.2.2.2.2.1, (), ()))))
  else
  (getI a.1.1 a.1.2.2.2.2.1).bind fun e19 =>
  (wk_KeptLetter (r14.1.1, r14.1.2.1, r14.1.2.2.1, r14.1.2.2.2.1, r14.1.2.2.2.2.1, r14.1.2.2.2.2.2.1, r14.1.2.2.2.2.2.2.1, r14.1.2.2.2.2.2.2.2.1, r14.1.2.2.2.2.2.2.2.2.1, (r14.1.2.2.2.2.2.2.2.2.2.1.1, r14.1.2.2.2.2.2.2.2.2.2.1.2.1, r14.1.2.2.2.2.2.2.2.2.2.1.2.2.1, ()), r14.1.2.2.2.2.2.2.2.2.2.2.1, r14.1.2.2.2.2.2.2.2.2.2.2.2.1, (r14.1.2.2.2.2.2.2.2.2.2.2.2.2.1.1, r14.1.2.2.2.2.2.2.2.2.2.2.2.2.1.2.1, r14.1.2.2.2.2.2.2.2.2.2.2.2.2.1.2.2), (r14.1.2.2.2.2.2.2.2.2.2.2.2.2.2.1.1, r14.1.2.2.2.2.2.2.2.2.2.2.2.2.2.1.2.1, r14.1.2.2.2.2.2.2.2.2.2.2.2.2.2.1.2.2), (r14.1.2.2.2.2.2.2.2.2.2.2.2.2.2.2.1.1, r14.1.2.2.2.2.2.2.2.2.2.2.2.2.2.2.1.2.1, r14.1.2.2.2.2.2.2.2.2.2.2.2.2.2.2.1.2.2), (r14.1.2.2.2.2.2.2.2.2.2.2.2.2.2.2.2.1.1, r14.1.2.2.2.2.2.2.2.2.2.2.2.2.2.2.2.1.2.1, r14.1.2.2.2.2.2.2.2.2.2.2.2.2.2.2.2.1.2.2), r14.1.2.2.2.2.2.2.2.2.2.2.2.2.2.2.2.2.1, r14.1.2.2.2.2.2.2.2.2.2.2.2.2.2.2.2.2.2.1, r14.1.2.2.2.2.2.2.2.2.2.2.2.2.2.2.2.2.2.2.1, (r14.1.2.2.2.2.2.2.2.2.2.2.2.2.2.2.2.2.2.2.2.1.1, r14.1.2.2.2.2.2.2.2.2.2.2.2.2.2.2.2.2.2.2.2.1.2.1, r14.1.2.2.2.2.2.2.2.2.2.2.2.2.2.2.2.2.2.2.2.1.2.2), ()) e19 r15.2.2.1 r15.2.2.2.1 r15.2.2.2.2.1 r15.2.2.2.2.2.1 r15.2.2.2.2.2.2.1 r15.2.2.2.2.2.2.2.1).bind fun r20 =>
  (bif (!r20.1) then
  some (.inr (.inl ((false, ()), ((r15.2.1.1, r15.2.1.2.1, r15.2.1.2.2.1, r15.2.1.2.2.2.1, r15.2.1.2.2.2.2.1, r15.2.1.2.2.2.2.2.1, r15.2.1.2.2.2.2.2.2.1, ()), (r17.2.1.1, r17.2.1.2.1, r17.2.1.2.2.1, r17.2.1.2.2.2.1, r17.2.1.2.2.2.2.1, r17.2.1.2.2.2.2.2.1, ()), (), (), r15.2.2.2.2.2.2.2.2.2.2.2.2.2.2.1, (), ()))))
  else
  (wk_OverLetter_2 (r14.1.1, r14.1.2.1, r14.1.2.2.1, r14.1.2.2.2.1, r14.1.2.2.2.2.1, r14.1.2.2.2.2.2.1, r14.1.2.2.2.2.2.2.1, r14.1.2.2.2.2.2.2.2.1, r14.1.2.2.2.2.2.2.2.2.1, (r14.1.2.2.2.2.2.2.2.2.2.1.1, r14.1.2.2.2.2.2.2.2.2.2.1.2.1, r14.1.2.2.2.2.2.2.2.2.2.1.2.2.1, ()), r14.1.2.2.2.2.2.2.2.2.2.2.1, r14.1.2.2.2.2.2.2.2.2.2.2.2.1, (r14.1.2.2.2.2.2.2.2.2.2.2.2.2.1.1, r14.1.2.2.2.2.2.2.2.2.2.2.2.2.1.2.1, r14.1.2.2.2.2.2.2.2.2.2.2.2.2.1.2.2), (r14.1.2.2.2.2.2.2.2.2.2.2.2.2.2.1.1, r14.1.2.2.2.2.2.2.2.2.2.2.2.2.2.1.2.1, r14.1.2.2.2.2.2.2.2.2.2.2.2.2.2.1.2.2), (r14.1.2.2.2.2.2.2.2.2.2.2.2.2.2.2.1.1, r14.1.2.2.2.2.2.2.2.2.2.2.2.2.2.2.1.2.1, r14.1.2.2.2.2.2.2.2.2.2.2.2.2.2.2.1.2.2), (r14.1.2.2.2.2.2.2.2.2.2.2.2.2.2.2.2.1.1, r14.1.2.2.2.2.2.2.2.2.2.2.2.2.2.2.2.1.2.1, r14.1.2.2.2.2.2.2.2.2.2.2.2.2.2.2.2.1.2.2), r14.1.2.2.2.2.2.2.2.2.2.2.2.2.2.2.2.2.1, r14.1.2.2.2.2.2.2.2.2.2.2.2.2.2.2.2.2.2.1, r14.1.2.2.2.2.2.2.2.2.2.2.2.2.2.2.2.2.2.2.1, (r14.1.2.2.2.2.2.2.2.2.2.2.2.2.2.2.2.2.2.2.2.1.1, r14.1.2.2.2.2.2.2.2.2.2.2.2.2.2.2.2.2.2.2.2.1.2.1, r14.1.2.2.2.2.2.2.2.2.2.2.2.2.2.2.2.2.2.2.2.1.2.2), ()) r20.2.1 r20.2.2.1 r20.2.2.2.1 r20.2.2.2.2.1 r20.2.2.2.2.2.1 r20.2.2.2.2.2.2.1).bind fun r21 =>
  (wk_OverImage (r15.1.2.2.1.1, r15.1.2.2.1.2.1, r15.1.2.2.1.2.2.1, r15.1.2.2.1.2.2.2.1, r15.1.2.2.1.2.2.2.2.1, r15.1.2.2.1.2.2.2.2.2.1, r15.1.2.2.1.2.2.2.2.2.2.1, ()) r18.2.1 r18.2.2.1 r18.2.2.2.1 r18.2.2.2.2.1 r18.2.2.2.2.2.1).bind fun r22 =>
  some (.inl ((a.1.1, a.1.2.1, (), (), (IntKind.i64.wrap (a.1.2.2.2.2.1 + 1)), ()), ((r15.2.1.1, r15.2.1.2.1, r15.2.1.2.2.1, r15.2.1.2.2.2.1, r15.2.1.2.2.2.2.1, r15.2.1.2.2.2.2.2.1, r15.2.1.2.2.2.2.2.2.1, ()), (r17.2.1.1, r17.2.1.2.1, r17.2.1.2.2.1, r17.2.1.2.2.2.1, r17.2.1.2.2.2.2.1, r17.2.1.2.2.2.2.2.1, ()), r15.2.2.2.2.2.2.2.2.2.2.2.2.2.2.1, (), ()))))))))
  else
  some (.inr (.inr ((), ((a.2.1.1, a.2.1.2.1, a.2.1.2.2.1, a.2.1.2.2.2.1, a.2.1.2.2.2.2.1, a.2.1.2.2.2.2.2.1, a.2.1.2.2.2.2.2.2.1, ()), (a.2.2.1.1, a.2.2.1.2.1, a.2.2.1.2.2.1, a.2.2.1.2.2.2.1, a.2.2.1.2.2.2.2.1, a.2.2.1.2.2.2.2.2.1, ()), (), (), a.2.2.2.1, (), ())))))
def wl_FerryTakes_e1 : LEp := ⟨7, [0, 1, 5, 6, 7], [.one (.sl 20), .one (.int .i64), .one (.ptr 0 0), .one (.ptr 1 0), .one (.int .i64)], [.obj 56 [.int .i64, .int .i64, .int .i64, .int .i64, .bool, .bool, .asz 1 2], .obj 73 [.bool, .int .i64, .int .i64, .int .i64, .int .i64, .own 1 3], .arr 5 1 false, .row 5 1], [⟨.ret, [4], [.one (.bool)], [.obj 56 [.int .i64, .int .i64, .int .i64, .int .i64, .bool, .bool, .asz 1 4], .obj 73 [.bool, .int .i64, .int .i64, .int .i64, .int .i64, .own 1 5], .dead, .dead, .arr 5 1 false, .row 5 1]⟩, ⟨.exit 0, [], [], [.obj 56 [.int .i64, .int .i64, .int .i64, .int .i64, .bool, .bool, .asz 1 4], .obj 73 [.bool, .int .i64, .int .i64, .int .i64, .int .i64, .own 1 5], .dead, .dead, .arr 5 1 false, .row 5 1]⟩], wl_FerryTakes_l1⟩
def wl_FerryTakes_lt : List (LEp) := [wl_FerryTakes_e1]
theorem wl_FerryTakes_e1_ok : LeOk wl_FerryTakes_e1 (nthL (bodyOf Try.f4) 0) := fun A env h k z hk => le_ok (E := wl_FerryTakes_e1) (orcOf_ok wl_FerryTakes_tb) (dr := wl_FerryTakes_dr) (lps := lpsOf wl_FerryTakes_lt) (no_loop (by kernel_rfl)) (fun a => by kernel_rfl) env h k z hk
def wl_FerryTakes (x0 : List (DLetter)) (x1 : Int) : Option (Bool × Unit) :=
  (wl_awake).bind fun r1 =>
  (bif (!r1.1) then
  some (false, ())
  else
  (wl_great x0).bind fun r2 =>
  (bif r2.1 then
  some (true, ())
  else
  (ferry_New).bind fun r3 =>
  (w13_New).bind fun r4 =>
  (loopM wl_FerryTakes_l1 ((x0, x1, (), (), 0, ()), ((r3.2.1.1, r3.2.1.2.1, r3.2.1.2.2.1, r3.2.1.2.2.2.1, r3.2.1.2.2.2.2.1, r3.2.1.2.2.2.2.2.1, r3.2.1.2.2.2.2.2.2.1, ()), (r4.2.1.1, r4.2.1.2.1, r4.2.1.2.2.1, r4.2.1.2.2.2.1, r4.2.1.2.2.2.2.1, r4.2.1.2.2.2.2.2.1, ()), r3.2.2.1, (), ()))).bind fun b5 =>
  (match b5 with
  | .inl b6 =>
  some (b6.1.1, ())
  | .inr b7 =>
  (ferry_Drop_2).bind fun r8 =>
  (ferry_Take_3 (⟨5, 0, 0, 0, 0, 0, 0, 0, false, [], (⟨0, 0, (⟨[], [], [], []⟩ : DConfig)⟩ : DBase), 0, 0, 0, []⟩ : DLetter)).bind fun r9 =>
  (ferry_Take_4 (⟨5, 0, 0, 0, 0, 0, 0, 0, false, [], (⟨0, 0, (⟨[], [], [], []⟩ : DConfig)⟩ : DBase), 0, 0, 0, []⟩ : DLetter) (0, 0, 0, 0, false, false, 0, ()) []).bind fun r10 =>
  (bif (decide ((r9.1.1 : Int) = 0)) then
  (bif (decide ((r10.1.1 : Int) = 0)) then
  (bif (!r9.1.2.1) then
  (bif (!r10.1.2.1) then
  (wk_SameImage_4 r9.1.2.2.1 (⟨(⟨0, 0, (⟨[], [], [], []⟩ : DConfig)⟩ : DBase), []⟩ : DImage)).bind fun r11 =>
  (bif r11.1 then
  (wk_SameImage_3 (r10.1.2.2.1.1, r10.1.2.2.1.2.1, r10.1.2.2.1.2.2.1, r10.1.2.2.1.2.2.2.1, r10.1.2.2.1.2.2.2.2.1, r10.1.2.2.1.2.2.2.2.2.1, r10.1.2.2.1.2.2.2.2.2.2.1, ()) (⟨(⟨0, 0, (⟨[], [], [], []⟩ : DConfig)⟩ : DBase), []⟩ : DImage) r10.2.2.2.1 r10.2.2.2.2.1 r10.2.2.2.2.2.1 r10.2.2.2.2.2.2.1 r10.2.2.2.2.2.2.2.1).bind fun r12 =>
  some (r12.1, ())
  else
  some (false, ()))
  else
  some (false, ()))
  else
  some (false, ()))
  else
  some (false, ()))
  else
  some (false, ())))))
def wl_FerryTakes_ce : CEp where
  f := 4
  args := [.one (.sl 20), .one (.int .i64)]
  hs := []
  res := .val (.one (.bool))
  outs := []
  m := fun d dh => wl_FerryTakes d.1 d.2.1
  ok := ce_ok mixedP Try.func4 (by kernel_rfl) (orcOf_ok wl_FerryTakes_tb) (dr := wl_FerryTakes_dr) (lps := lpsOf wl_FerryTakes_lt) (lps_fn (lps_of (n := 1) (by kernel_rfl) fun i hi => match i, hi with | 0, _ => lp_ok (E := wl_FerryTakes_e1) (by kernel_rfl) wl_FerryTakes_e1_ok)) (fun d dh => by kernel_rfl)
end
end Go.Proofs.Ytlaehnldaejipaa
