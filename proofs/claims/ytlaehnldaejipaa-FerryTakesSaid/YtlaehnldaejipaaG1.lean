/- Models, by program. -/
import Derived.Test.YtlaehnldaejipaaG1a
namespace Go.Proofs.Ytlaehnldaejipaa
open Go.RowKit
set_option maxRecDepth 100000
set_option linter.unusedVariables false
noncomputable def watershedkit_KeptBytes_tb : List (CE CT Try.prog) := [watershedkit_markByte_ce]
noncomputable def watershedkit_KeptBytes_l1 (a : ((List (UInt8)) × (Nat × Nat × Nat × Nat × Unit) × (Int) × Unit) × ((List (DEntryX)) × Unit)) : Option ((((List (UInt8)) × (Nat × Nat × Nat × Nat × Unit) × (Int) × Unit) × ((List (DEntryX)) × Unit)) ⊕ ((((Bool) × Unit) × ((List (DEntryX)) × Unit)) ⊕ ((Unit) × ((List (DEntryX)) × Unit)))) :=
  (bif (decide ((a.1.2.2.1 : Int) < ((a.1.2.1.2.2.1 : Nat) : Int))) then
  (bif (decide ((a.1.2.2.1 : Int) < (a.1.1.length : Int))) then
  (if 0 ≤ (a.1.2.2.1 : Int) ∧ (a.1.2.2.1 : Int) < ((a.1.2.1.2.2.1 : Nat) : Int) then
  (getI a.1.1 a.1.2.2.1).bind fun e1 =>
  (a.2.1[a.1.2.1.1]?).bind fun e2 =>
  ((e2.command.1 ++ e2.command.2)[(a.1.2.1.2.1 + (a.1.2.2.1 : Int).toNat)]?).bind fun e3 =>
  (bif (!(decide (((e3.toNat : Int) : Int) = (e1.toNat : Int)))) then
  some (.inr (.inl ((false, ()), (a.2.1, ()))))
  else
  (bif (decide (((a.1.1.length : Int) : Int) ≤ a.1.2.2.1)) then
  (if 0 ≤ (a.1.2.2.1 : Int) ∧ (a.1.2.2.1 : Int) < ((a.1.2.1.2.2.1 : Nat) : Int) then
  (a.2.1[a.1.2.1.1]?).bind fun e4 =>
  ((e4.command.1 ++ e4.command.2)[(a.1.2.1.2.1 + (a.1.2.2.1 : Int).toNat)]?).bind fun e5 =>
  (watershedkit_markByte 1 (IntKind.i64.wrap (a.1.2.2.1 - (a.1.1.length : Int)))).bind fun r6 =>
  (bif (!(decide (((e5.toNat : Int) : Int) = r6.1))) then
  some (.inr (.inl ((false, ()), (a.2.1, ()))))
  else
  some (.inl ((a.1.1, (a.1.2.1.1, a.1.2.1.2.1, a.1.2.1.2.2.1, a.1.2.1.2.2.2.1, ()), (IntKind.i64.wrap (a.1.2.2.1 + 1)), ()), (a.2.1, ()))))
  else none)
  else
  some (.inl ((a.1.1, (a.1.2.1.1, a.1.2.1.2.1, a.1.2.1.2.2.1, a.1.2.1.2.2.2.1, ()), (IntKind.i64.wrap (a.1.2.2.1 + 1)), ()), (a.2.1, ())))))
  else none)
  else
  (bif (decide (((a.1.1.length : Int) : Int) ≤ a.1.2.2.1)) then
  (if 0 ≤ (a.1.2.2.1 : Int) ∧ (a.1.2.2.1 : Int) < ((a.1.2.1.2.2.1 : Nat) : Int) then
  (a.2.1[a.1.2.1.1]?).bind fun e7 =>
  ((e7.command.1 ++ e7.command.2)[(a.1.2.1.2.1 + (a.1.2.2.1 : Int).toNat)]?).bind fun e8 =>
  (watershedkit_markByte 1 (IntKind.i64.wrap (a.1.2.2.1 - (a.1.1.length : Int)))).bind fun r9 =>
  (bif (!(decide (((e8.toNat : Int) : Int) = r9.1))) then
  some (.inr (.inl ((false, ()), (a.2.1, ()))))
  else
  some (.inl ((a.1.1, (a.1.2.1.1, a.1.2.1.2.1, a.1.2.1.2.2.1, a.1.2.1.2.2.2.1, ()), (IntKind.i64.wrap (a.1.2.2.1 + 1)), ()), (a.2.1, ()))))
  else none)
  else
  some (.inl ((a.1.1, (a.1.2.1.1, a.1.2.1.2.1, a.1.2.1.2.2.1, a.1.2.1.2.2.2.1, ()), (IntKind.i64.wrap (a.1.2.2.1 + 1)), ()), (a.2.1, ())))))
  else
  some (.inr (.inr ((), (a.2.1, ())))))
noncomputable def watershedkit_KeptBytes_e1 : LE CT Try.prog := ⟨5, [1, 5, 6], [.one (.sl 1), .one (.gv 0 542 4), .one (.int .i64)], [.gen 8 true], [⟨.ret, [4], [.one (.bool)], [.gen 8 true]⟩, ⟨.exit 0, [], [], [.gen 8 true]⟩], watershedkit_KeptBytes_l1⟩
noncomputable def watershedkit_KeptBytes_lt : List (LE CT Try.prog) := [watershedkit_KeptBytes_e1]
theorem watershedkit_KeptBytes_e1_ok : LeOk watershedkit_KeptBytes_e1 (nthL (bodyOf Try.f45) 0) := fun A env h k z hk => le_ok (E := watershedkit_KeptBytes_e1) (orcOfX_ok HK0 watershedkit_KeptBytes_tb) (dr := watershedkit_KeptBytes_dr) (lps := lpsOf watershedkit_KeptBytes_lt) (no_loop (by kernel_rfl)) (fun a => by kernel_rfl) env h k z hk
noncomputable def watershedkit_KeptBytes (x0 : Nat × Nat × Nat × Nat × Unit) (x1 : List (UInt8)) (h0 : List (DEntryX)) : Option ((Bool) × ((List (DEntryX)) × Unit)) :=
  (bif (decide ((((x0.2.2.1 : Nat) : Int) : Int) ≠ (x1.length : Int))) then
  some (false, (h0, ()))
  else
  (if 0 ≤ (0 : Int) ∧ (0 : Int) ≤ ((IntKind.i64.wrap ((x1.length : Int) + 12)) : Int) ∧ ((IntKind.i64.wrap ((x1.length : Int) + 12)) : Int) ≤ ((x0.2.2.2.1 : Nat) : Int) ∧ ((0 : Int) = 0 ∨ (0 : Int) < ((x0.2.2.2.1 : Nat) : Int)) then
  (loopM watershedkit_KeptBytes_l1 ((x1, (x0.1, (x0.2.1 + (0 : Int).toNat), (((IntKind.i64.wrap ((x1.length : Int) + 12)) : Int).toNat - (0 : Int).toNat), (x0.2.2.2.1 - (0 : Int).toNat), ()), 0, ()), (h0, ()))).bind fun b1 =>
  (match b1 with
  | .inl b2 =>
  some (b2.1.1, (b2.2.1, ()))
  | .inr b3 =>
  some (true, (b3.2.1, ())))
  else none))
noncomputable def watershedkit_KeptBytes_ce : CE CT Try.prog where
  f := 45
  args := [.one (.gv 0 542 4), .one (.sl 1)]
  hs := [.gen 8 true]
  res := .val (.one (.bool))
  outs := [.gen 8 true]
  m := fun d dh => watershedkit_KeptBytes d.1 d.2.1 dh.1
  ok := ce_ok mixedP Try.func45 (by kernel_rfl) (orcOfX_ok HK0 watershedkit_KeptBytes_tb) (dr := watershedkit_KeptBytes_dr) (lps := lpsOf watershedkit_KeptBytes_lt) (lps_fn (lps_of (n := 1) (by kernel_rfl) fun i hi => match i, hi with | 0, _ => lp_ok (E := watershedkit_KeptBytes_e1) (by kernel_rfl) watershedkit_KeptBytes_e1_ok)) (fun d dh => by kernel_rfl)

def watershedkit_KeptInts_dr : Nat → Nat → DrA
  | 7, _ => ⟨[0, 1, 2, 3, 4, 5, 6, 7, 9, 10, 11, 8, 12, 13, 14, 15, 16, 17, 18, 19, 20, 21, 22, 23, 24, 26, 27, 28, 29, 25, 30, 31, 32, 33, 34], [[], [], [1], [0, 1, 2], [0, 1, 2, 3], [0, 1, 2, 3, 4], [0, 1, 2, 3, 4], [0, 1, 2, 3, 4, 5, 6], [0, 1, 2, 3, 4, 5, 6, 7], [0, 1, 2, 3, 4], [0, 1, 2, 3, 4], [0, 1, 2, 3, 4, 9, 10], [0, 1, 2, 3, 4, 9, 10, 11], [0, 1, 2, 3, 4, 5, 6, 7, 8, 9, 10, 11, 12], [0, 1, 2, 3, 4, 5, 6, 7, 8, 9, 10, 11, 12, 13], [0, 1, 2, 3, 4, 5, 6, 7, 8, 9, 10, 11, 12, 13, 14], [0, 1, 2, 3, 4, 5, 6, 7, 8, 9, 10, 11, 12, 13, 14, 15], [0, 1, 2, 3, 4, 5, 6, 7, 8, 9, 10, 11, 12, 13, 14, 15, 16], [0, 1, 2, 3, 4, 5, 6, 7, 8, 9, 10, 11, 12, 13, 14, 15, 16], [0, 1, 2, 3, 4, 5, 6, 7, 8, 9, 10, 11, 12, 13, 14, 15, 16, 18], [0, 1, 2, 3, 4, 5, 6, 7, 8, 9, 10, 11, 12, 13, 14, 15, 16, 17, 18, 19], [0, 1, 2, 3, 4, 5, 6, 7, 8, 9, 10, 11, 12, 13, 14, 15, 16, 17, 18, 19, 20], [0, 1, 2, 3, 4, 5, 6, 7, 8, 9, 10, 11, 12, 13, 14, 15, 16, 17, 18, 19, 20, 21], [0, 1, 2, 3, 4, 5, 6, 7, 8, 9, 10, 11, 12, 13, 14, 15, 16, 17, 18, 19, 20, 21], [0, 1, 2, 3, 4, 5, 6, 7, 8, 9, 10, 11, 12, 13, 14, 15, 16, 17, 18, 19, 20, 21, 22, 23], [0, 1, 2, 3, 4, 5, 6, 7, 8, 9, 10, 11, 12, 13, 14, 15, 16, 17, 18, 19, 20, 21, 22, 23, 24], [0, 1, 2, 3, 4, 5, 6, 7, 8, 9, 10, 11, 12, 13, 14, 15, 16, 17, 18, 19, 20, 21], [0, 1, 2, 3, 4, 5, 6, 7, 8, 9, 10, 11, 12, 13, 14, 15, 16, 17, 18, 19, 20, 21], [0, 1, 2, 3, 4, 5, 6, 7, 8, 9, 10, 11, 12, 13, 14, 15, 16, 17, 18, 19, 20, 21, 27], [0, 1, 2, 3, 4, 5, 6, 7, 8, 9, 10, 11, 12, 13, 14, 15, 16, 17, 18, 19, 20, 21, 26, 27, 28], [0, 1, 2, 3, 4, 5, 6, 7, 8, 9, 10, 11, 12, 13, 14, 15, 16, 17, 18, 19, 20, 21, 26, 27, 28, 29], [0, 1, 2, 3, 4, 5, 6, 7, 8, 9, 10, 11, 12, 13, 14, 15, 16, 17, 18, 19, 20, 21, 22, 23, 24, 25, 26, 27, 28, 29, 30], [0, 1, 2, 3, 4, 5, 6, 7, 8, 9, 10, 11, 12, 13, 14, 15, 16, 17, 18, 19, 20, 21, 22, 23, 24, 25, 26, 27, 28, 29, 30, 31], [0, 1, 2, 3, 4, 5, 6, 7, 8, 9, 10, 11, 12, 13, 14, 15, 16, 17, 18, 19, 20, 21, 22, 23, 24, 25, 26, 27, 28, 29, 30, 31, 32], [0, 1, 2, 3, 4, 5, 6, 7, 8, 9, 10, 11, 12, 13, 14, 15, 16, 17, 18, 19, 20, 21, 22, 23, 24, 25, 26, 27, 28, 29, 30, 31, 32, 33]], [25], [30], [0], false, []⟩
  | _, _ => ⟨[], [], [], [], [], false, []⟩
noncomputable def watershedkit_KeptInts_tb : List (CE CT Try.prog) := [watershedkit_mark_ce]
noncomputable def watershedkit_KeptInts_l1 (a : ((List (Int)) × (Nat × Nat × Nat × Nat × Unit) × (Int) × Unit) × ((List (DEntryX)) × Unit)) : Option ((((List (Int)) × (Nat × Nat × Nat × Nat × Unit) × (Int) × Unit) × ((List (DEntryX)) × Unit)) ⊕ ((((Bool) × Unit) × ((List (DEntryX)) × Unit)) ⊕ ((Unit) × ((List (DEntryX)) × Unit)))) :=
  (bif (decide ((a.1.2.2.1 : Int) < ((a.1.2.1.2.2.1 : Nat) : Int))) then
  (bif (decide ((a.1.2.2.1 : Int) < (a.1.1.length : Int))) then
  (if 0 ≤ (a.1.2.2.1 : Int) ∧ (a.1.2.2.1 : Int) < ((a.1.2.1.2.2.1 : Nat) : Int) then
  (getI a.1.1 a.1.2.2.1).bind fun e1 =>
  (a.2.1[a.1.2.1.1]?).bind fun e2 =>
  ((e2.config.voters.1 ++ e2.config.voters.2)[(a.1.2.1.2.1 + (a.1.2.2.1 : Int).toNat)]?).bind fun e3 =>
  (bif (!(decide ((e3 : Int) = e1))) then
  some (.inr (.inl ((false, ()), (a.2.1, ()))))
  else
  (bif (decide (((a.1.1.length : Int) : Int) ≤ a.1.2.2.1)) then
  (if 0 ≤ (a.1.2.2.1 : Int) ∧ (a.1.2.2.1 : Int) < ((a.1.2.1.2.2.1 : Nat) : Int) then
  (a.2.1[a.1.2.1.1]?).bind fun e4 =>
  ((e4.config.voters.1 ++ e4.config.voters.2)[(a.1.2.1.2.1 + (a.1.2.2.1 : Int).toNat)]?).bind fun e5 =>
  (watershedkit_mark 1 (IntKind.i64.wrap (a.1.2.2.1 - (a.1.1.length : Int)))).bind fun r6 =>
  (bif (!(decide ((e5 : Int) = r6.1))) then
  some (.inr (.inl ((false, ()), (a.2.1, ()))))
  else
  some (.inl ((a.1.1, (a.1.2.1.1, a.1.2.1.2.1, a.1.2.1.2.2.1, a.1.2.1.2.2.2.1, ()), (IntKind.i64.wrap (a.1.2.2.1 + 1)), ()), (a.2.1, ()))))
  else none)
  else
  some (.inl ((a.1.1, (a.1.2.1.1, a.1.2.1.2.1, a.1.2.1.2.2.1, a.1.2.1.2.2.2.1, ()), (IntKind.i64.wrap (a.1.2.2.1 + 1)), ()), (a.2.1, ())))))
  else none)
  else
  (bif (decide (((a.1.1.length : Int) : Int) ≤ a.1.2.2.1)) then
  (if 0 ≤ (a.1.2.2.1 : Int) ∧ (a.1.2.2.1 : Int) < ((a.1.2.1.2.2.1 : Nat) : Int) then
  (a.2.1[a.1.2.1.1]?).bind fun e7 =>
  ((e7.config.voters.1 ++ e7.config.voters.2)[(a.1.2.1.2.1 + (a.1.2.2.1 : Int).toNat)]?).bind fun e8 =>
  (watershedkit_mark 1 (IntKind.i64.wrap (a.1.2.2.1 - (a.1.1.length : Int)))).bind fun r9 =>
  (bif (!(decide ((e8 : Int) = r9.1))) then
  some (.inr (.inl ((false, ()), (a.2.1, ()))))
  else
  some (.inl ((a.1.1, (a.1.2.1.1, a.1.2.1.2.1, a.1.2.1.2.2.1, a.1.2.1.2.2.2.1, ()), (IntKind.i64.wrap (a.1.2.2.1 + 1)), ()), (a.2.1, ()))))
  else none)
  else
  some (.inl ((a.1.1, (a.1.2.1.1, a.1.2.1.2.1, a.1.2.1.2.2.1, a.1.2.1.2.2.2.1, ()), (IntKind.i64.wrap (a.1.2.2.1 + 1)), ()), (a.2.1, ())))))
  else
  some (.inr (.inr ((), (a.2.1, ())))))
noncomputable def watershedkit_KeptInts_e1 : LE CT Try.prog := ⟨5, [1, 5, 6], [.one (.sl 0), .one (.gv 0 798 4), .one (.int .i64)], [.gen 8 true], [⟨.ret, [4], [.one (.bool)], [.gen 8 true]⟩, ⟨.exit 0, [], [], [.gen 8 true]⟩], watershedkit_KeptInts_l1⟩
noncomputable def watershedkit_KeptInts_lt : List (LE CT Try.prog) := [watershedkit_KeptInts_e1]
theorem watershedkit_KeptInts_e1_ok : LeOk watershedkit_KeptInts_e1 (nthL (bodyOf Try.f70) 0) := fun A env h k z hk => le_ok (E := watershedkit_KeptInts_e1) (orcOfX_ok HK0 watershedkit_KeptInts_tb) (dr := watershedkit_KeptInts_dr) (lps := lpsOf watershedkit_KeptInts_lt) (no_loop (by kernel_rfl)) (fun a => by kernel_rfl) env h k z hk
noncomputable def watershedkit_KeptInts (x0 : Nat × Nat × Nat × Nat × Unit) (x1 : List (Int)) (h0 : List (DEntryX)) : Option ((Bool) × ((List (DEntryX)) × Unit)) :=
  (bif (decide ((((x0.2.2.1 : Nat) : Int) : Int) ≠ (x1.length : Int))) then
  some (false, (h0, ()))
  else
  (if 0 ≤ (0 : Int) ∧ (0 : Int) ≤ ((IntKind.i64.wrap ((x1.length : Int) + 12)) : Int) ∧ ((IntKind.i64.wrap ((x1.length : Int) + 12)) : Int) ≤ ((x0.2.2.2.1 : Nat) : Int) ∧ ((0 : Int) = 0 ∨ (0 : Int) < ((x0.2.2.2.1 : Nat) : Int)) then
  (loopM watershedkit_KeptInts_l1 ((x1, (x0.1, (x0.2.1 + (0 : Int).toNat), (((IntKind.i64.wrap ((x1.length : Int) + 12)) : Int).toNat - (0 : Int).toNat), (x0.2.2.2.1 - (0 : Int).toNat), ()), 0, ()), (h0, ()))).bind fun b1 =>
  (match b1 with
  | .inl b2 =>
  some (b2.1.1, (b2.2.1, ()))
  | .inr b3 =>
  some (true, (b3.2.1, ())))
  else none))
noncomputable def watershedkit_KeptInts_ce : CE CT Try.prog where
  f := 70
  args := [.one (.gv 0 798 4), .one (.sl 0)]
  hs := [.gen 8 true]
  res := .val (.one (.bool))
  outs := [.gen 8 true]
  m := fun d dh => watershedkit_KeptInts d.1 d.2.1 dh.1
  ok := ce_ok mixedP Try.func70 (by kernel_rfl) (orcOfX_ok HK0 watershedkit_KeptInts_tb) (dr := watershedkit_KeptInts_dr) (lps := lpsOf watershedkit_KeptInts_lt) (lps_fn (lps_of (n := 1) (by kernel_rfl) fun i hi => match i, hi with | 0, _ => lp_ok (E := watershedkit_KeptInts_e1) (by kernel_rfl) watershedkit_KeptInts_e1_ok)) (fun d dh => by kernel_rfl)

def watershedkit_KeptInts_2_dr : Nat → Nat → DrA
  | 7, _ => ⟨[0, 1, 2, 3, 4, 5, 6, 7, 9, 10, 11, 8, 12, 13, 14, 15, 16, 17, 18, 19, 20, 21, 22, 23, 24, 26, 27, 28, 29, 25, 30, 31, 32, 33, 34], [[], [], [1], [0, 1, 2], [0, 1, 2, 3], [0, 1, 2, 3, 4], [0, 1, 2, 3, 4], [0, 1, 2, 3, 4, 5, 6], [0, 1, 2, 3, 4, 5, 6, 7], [0, 1, 2, 3, 4], [0, 1, 2, 3, 4], [0, 1, 2, 3, 4, 9, 10], [0, 1, 2, 3, 4, 9, 10, 11], [0, 1, 2, 3, 4, 5, 6, 7, 8, 9, 10, 11, 12], [0, 1, 2, 3, 4, 5, 6, 7, 8, 9, 10, 11, 12, 13], [0, 1, 2, 3, 4, 5, 6, 7, 8, 9, 10, 11, 12, 13, 14], [0, 1, 2, 3, 4, 5, 6, 7, 8, 9, 10, 11, 12, 13, 14, 15], [0, 1, 2, 3, 4, 5, 6, 7, 8, 9, 10, 11, 12, 13, 14, 15, 16], [0, 1, 2, 3, 4, 5, 6, 7, 8, 9, 10, 11, 12, 13, 14, 15, 16], [0, 1, 2, 3, 4, 5, 6, 7, 8, 9, 10, 11, 12, 13, 14, 15, 16, 18], [0, 1, 2, 3, 4, 5, 6, 7, 8, 9, 10, 11, 12, 13, 14, 15, 16, 17, 18, 19], [0, 1, 2, 3, 4, 5, 6, 7, 8, 9, 10, 11, 12, 13, 14, 15, 16, 17, 18, 19, 20], [0, 1, 2, 3, 4, 5, 6, 7, 8, 9, 10, 11, 12, 13, 14, 15, 16, 17, 18, 19, 20, 21], [0, 1, 2, 3, 4, 5, 6, 7, 8, 9, 10, 11, 12, 13, 14, 15, 16, 17, 18, 19, 20, 21], [0, 1, 2, 3, 4, 5, 6, 7, 8, 9, 10, 11, 12, 13, 14, 15, 16, 17, 18, 19, 20, 21, 22, 23], [0, 1, 2, 3, 4, 5, 6, 7, 8, 9, 10, 11, 12, 13, 14, 15, 16, 17, 18, 19, 20, 21, 22, 23, 24], [0, 1, 2, 3, 4, 5, 6, 7, 8, 9, 10, 11, 12, 13, 14, 15, 16, 17, 18, 19, 20, 21], [0, 1, 2, 3, 4, 5, 6, 7, 8, 9, 10, 11, 12, 13, 14, 15, 16, 17, 18, 19, 20, 21], [0, 1, 2, 3, 4, 5, 6, 7, 8, 9, 10, 11, 12, 13, 14, 15, 16, 17, 18, 19, 20, 21, 27], [0, 1, 2, 3, 4, 5, 6, 7, 8, 9, 10, 11, 12, 13, 14, 15, 16, 17, 18, 19, 20, 21, 26, 27, 28], [0, 1, 2, 3, 4, 5, 6, 7, 8, 9, 10, 11, 12, 13, 14, 15, 16, 17, 18, 19, 20, 21, 26, 27, 28, 29], [0, 1, 2, 3, 4, 5, 6, 7, 8, 9, 10, 11, 12, 13, 14, 15, 16, 17, 18, 19, 20, 21, 22, 23, 24, 25, 26, 27, 28, 29, 30], [0, 1, 2, 3, 4, 5, 6, 7, 8, 9, 10, 11, 12, 13, 14, 15, 16, 17, 18, 19, 20, 21, 22, 23, 24, 25, 26, 27, 28, 29, 30, 31], [0, 1, 2, 3, 4, 5, 6, 7, 8, 9, 10, 11, 12, 13, 14, 15, 16, 17, 18, 19, 20, 21, 22, 23, 24, 25, 26, 27, 28, 29, 30, 31, 32], [0, 1, 2, 3, 4, 5, 6, 7, 8, 9, 10, 11, 12, 13, 14, 15, 16, 17, 18, 19, 20, 21, 22, 23, 24, 25, 26, 27, 28, 29, 30, 31, 32, 33]], [25], [30], [0], false, []⟩
  | _, _ => ⟨[], [], [], [], [], false, []⟩
noncomputable def watershedkit_KeptInts_2_tb : List (CE CT Try.prog) := [watershedkit_mark_ce]
noncomputable def watershedkit_KeptInts_2_l1 (a : ((List (Int)) × (Nat × Nat × Nat × Nat × Unit) × (Int) × Unit) × ((List (DEntryX)) × Unit)) : Option ((((List (Int)) × (Nat × Nat × Nat × Nat × Unit) × (Int) × Unit) × ((List (DEntryX)) × Unit)) ⊕ ((((Bool) × Unit) × ((List (DEntryX)) × Unit)) ⊕ ((Unit) × ((List (DEntryX)) × Unit)))) :=
  (bif (decide ((a.1.2.2.1 : Int) < ((a.1.2.1.2.2.1 : Nat) : Int))) then
  (bif (decide ((a.1.2.2.1 : Int) < (a.1.1.length : Int))) then
  (if 0 ≤ (a.1.2.2.1 : Int) ∧ (a.1.2.2.1 : Int) < ((a.1.2.1.2.2.1 : Nat) : Int) then
  (getI a.1.1 a.1.2.2.1).bind fun e1 =>
  (a.2.1[a.1.2.1.1]?).bind fun e2 =>
  ((e2.config.old.1 ++ e2.config.old.2)[(a.1.2.1.2.1 + (a.1.2.2.1 : Int).toNat)]?).bind fun e3 =>
  (bif (!(decide ((e3 : Int) = e1))) then
  some (.inr (.inl ((false, ()), (a.2.1, ()))))
  else
  (bif (decide (((a.1.1.length : Int) : Int) ≤ a.1.2.2.1)) then
  (if 0 ≤ (a.1.2.2.1 : Int) ∧ (a.1.2.2.1 : Int) < ((a.1.2.1.2.2.1 : Nat) : Int) then
  (a.2.1[a.1.2.1.1]?).bind fun e4 =>
  ((e4.config.old.1 ++ e4.config.old.2)[(a.1.2.1.2.1 + (a.1.2.2.1 : Int).toNat)]?).bind fun e5 =>
  (watershedkit_mark 1 (IntKind.i64.wrap (a.1.2.2.1 - (a.1.1.length : Int)))).bind fun r6 =>
  (bif (!(decide ((e5 : Int) = r6.1))) then
  some (.inr (.inl ((false, ()), (a.2.1, ()))))
  else
  some (.inl ((a.1.1, (a.1.2.1.1, a.1.2.1.2.1, a.1.2.1.2.2.1, a.1.2.1.2.2.2.1, ()), (IntKind.i64.wrap (a.1.2.2.1 + 1)), ()), (a.2.1, ()))))
  else none)
  else
  some (.inl ((a.1.1, (a.1.2.1.1, a.1.2.1.2.1, a.1.2.1.2.2.1, a.1.2.1.2.2.2.1, ()), (IntKind.i64.wrap (a.1.2.2.1 + 1)), ()), (a.2.1, ())))))
  else none)
  else
  (bif (decide (((a.1.1.length : Int) : Int) ≤ a.1.2.2.1)) then
  (if 0 ≤ (a.1.2.2.1 : Int) ∧ (a.1.2.2.1 : Int) < ((a.1.2.1.2.2.1 : Nat) : Int) then
  (a.2.1[a.1.2.1.1]?).bind fun e7 =>
  ((e7.config.old.1 ++ e7.config.old.2)[(a.1.2.1.2.1 + (a.1.2.2.1 : Int).toNat)]?).bind fun e8 =>
  (watershedkit_mark 1 (IntKind.i64.wrap (a.1.2.2.1 - (a.1.1.length : Int)))).bind fun r9 =>
  (bif (!(decide ((e8 : Int) = r9.1))) then
  some (.inr (.inl ((false, ()), (a.2.1, ()))))
  else
  some (.inl ((a.1.1, (a.1.2.1.1, a.1.2.1.2.1, a.1.2.1.2.2.1, a.1.2.1.2.2.2.1, ()), (IntKind.i64.wrap (a.1.2.2.1 + 1)), ()), (a.2.1, ()))))
  else none)
  else
  some (.inl ((a.1.1, (a.1.2.1.1, a.1.2.1.2.1, a.1.2.1.2.2.1, a.1.2.1.2.2.2.1, ()), (IntKind.i64.wrap (a.1.2.2.1 + 1)), ()), (a.2.1, ())))))
  else
  some (.inr (.inr ((), (a.2.1, ())))))
noncomputable def watershedkit_KeptInts_2_e1 : LE CT Try.prog := ⟨5, [1, 5, 6], [.one (.sl 0), .one (.gv 0 1054 4), .one (.int .i64)], [.gen 8 true], [⟨.ret, [4], [.one (.bool)], [.gen 8 true]⟩, ⟨.exit 0, [], [], [.gen 8 true]⟩], watershedkit_KeptInts_2_l1⟩
noncomputable def watershedkit_KeptInts_2_lt : List (LE CT Try.prog) := [watershedkit_KeptInts_2_e1]
theorem watershedkit_KeptInts_2_e1_ok : LeOk watershedkit_KeptInts_2_e1 (nthL (bodyOf Try.f70) 0) := fun A env h k z hk => le_ok (E := watershedkit_KeptInts_2_e1) (orcOfX_ok HK0 watershedkit_KeptInts_2_tb) (dr := watershedkit_KeptInts_2_dr) (lps := lpsOf watershedkit_KeptInts_2_lt) (no_loop (by kernel_rfl)) (fun a => by kernel_rfl) env h k z hk
noncomputable def watershedkit_KeptInts_2 (x0 : Nat × Nat × Nat × Nat × Unit) (x1 : List (Int)) (h0 : List (DEntryX)) : Option ((Bool) × ((List (DEntryX)) × Unit)) :=
  (bif (decide ((((x0.2.2.1 : Nat) : Int) : Int) ≠ (x1.length : Int))) then
  some (false, (h0, ()))
  else
  (if 0 ≤ (0 : Int) ∧ (0 : Int) ≤ ((IntKind.i64.wrap ((x1.length : Int) + 12)) : Int) ∧ ((IntKind.i64.wrap ((x1.length : Int) + 12)) : Int) ≤ ((x0.2.2.2.1 : Nat) : Int) ∧ ((0 : Int) = 0 ∨ (0 : Int) < ((x0.2.2.2.1 : Nat) : Int)) then
  (loopM watershedkit_KeptInts_2_l1 ((x1, (x0.1, (x0.2.1 + (0 : Int).toNat), (((IntKind.i64.wrap ((x1.length : Int) + 12)) : Int).toNat - (0 : Int).toNat), (x0.2.2.2.1 - (0 : Int).toNat), ()), 0, ()), (h0, ()))).bind fun b1 =>
  (match b1 with
  | .inl b2 =>
  some (b2.1.1, (b2.2.1, ()))
  | .inr b3 =>
  some (true, (b3.2.1, ())))
  else none))
noncomputable def watershedkit_KeptInts_2_ce : CE CT Try.prog where
  f := 70
  args := [.one (.gv 0 1054 4), .one (.sl 0)]
  hs := [.gen 8 true]
  res := .val (.one (.bool))
  outs := [.gen 8 true]
  m := fun d dh => watershedkit_KeptInts_2 d.1 d.2.1 dh.1
  ok := ce_ok mixedP Try.func70 (by kernel_rfl) (orcOfX_ok HK0 watershedkit_KeptInts_2_tb) (dr := watershedkit_KeptInts_2_dr) (lps := lpsOf watershedkit_KeptInts_2_lt) (lps_fn (lps_of (n := 1) (by kernel_rfl) fun i hi => match i, hi with | 0, _ => lp_ok (E := watershedkit_KeptInts_2_e1) (by kernel_rfl) watershedkit_KeptInts_2_e1_ok)) (fun d dh => by kernel_rfl)

def watershedkit_KeptInts_3_dr : Nat → Nat → DrA
  | 7, _ => ⟨[0, 1, 2, 3, 4, 5, 6, 7, 9, 10, 11, 8, 12, 13, 14, 15, 16, 17, 18, 19, 20, 21, 22, 23, 24, 26, 27, 28, 29, 25, 30, 31, 32, 33, 34], [[], [], [1], [0, 1, 2], [0, 1, 2, 3], [0, 1, 2, 3, 4], [0, 1, 2, 3, 4], [0, 1, 2, 3, 4, 5, 6], [0, 1, 2, 3, 4, 5, 6, 7], [0, 1, 2, 3, 4], [0, 1, 2, 3, 4], [0, 1, 2, 3, 4, 9, 10], [0, 1, 2, 3, 4, 9, 10, 11], [0, 1, 2, 3, 4, 5, 6, 7, 8, 9, 10, 11, 12], [0, 1, 2, 3, 4, 5, 6, 7, 8, 9, 10, 11, 12, 13], [0, 1, 2, 3, 4, 5, 6, 7, 8, 9, 10, 11, 12, 13, 14], [0, 1, 2, 3, 4, 5, 6, 7, 8, 9, 10, 11, 12, 13, 14, 15], [0, 1, 2, 3, 4, 5, 6, 7, 8, 9, 10, 11, 12, 13, 14, 15, 16], [0, 1, 2, 3, 4, 5, 6, 7, 8, 9, 10, 11, 12, 13, 14, 15, 16], [0, 1, 2, 3, 4, 5, 6, 7, 8, 9, 10, 11, 12, 13, 14, 15, 16, 18], [0, 1, 2, 3, 4, 5, 6, 7, 8, 9, 10, 11, 12, 13, 14, 15, 16, 17, 18, 19], [0, 1, 2, 3, 4, 5, 6, 7, 8, 9, 10, 11, 12, 13, 14, 15, 16, 17, 18, 19, 20], [0, 1, 2, 3, 4, 5, 6, 7, 8, 9, 10, 11, 12, 13, 14, 15, 16, 17, 18, 19, 20, 21], [0, 1, 2, 3, 4, 5, 6, 7, 8, 9, 10, 11, 12, 13, 14, 15, 16, 17, 18, 19, 20, 21], [0, 1, 2, 3, 4, 5, 6, 7, 8, 9, 10, 11, 12, 13, 14, 15, 16, 17, 18, 19, 20, 21, 22, 23], [0, 1, 2, 3, 4, 5, 6, 7, 8, 9, 10, 11, 12, 13, 14, 15, 16, 17, 18, 19, 20, 21, 22, 23, 24], [0, 1, 2, 3, 4, 5, 6, 7, 8, 9, 10, 11, 12, 13, 14, 15, 16, 17, 18, 19, 20, 21], [0, 1, 2, 3, 4, 5, 6, 7, 8, 9, 10, 11, 12, 13, 14, 15, 16, 17, 18, 19, 20, 21], [0, 1, 2, 3, 4, 5, 6, 7, 8, 9, 10, 11, 12, 13, 14, 15, 16, 17, 18, 19, 20, 21, 27], [0, 1, 2, 3, 4, 5, 6, 7, 8, 9, 10, 11, 12, 13, 14, 15, 16, 17, 18, 19, 20, 21, 26, 27, 28], [0, 1, 2, 3, 4, 5, 6, 7, 8, 9, 10, 11, 12, 13, 14, 15, 16, 17, 18, 19, 20, 21, 26, 27, 28, 29], [0, 1, 2, 3, 4, 5, 6, 7, 8, 9, 10, 11, 12, 13, 14, 15, 16, 17, 18, 19, 20, 21, 22, 23, 24, 25, 26, 27, 28, 29, 30], [0, 1, 2, 3, 4, 5, 6, 7, 8, 9, 10, 11, 12, 13, 14, 15, 16, 17, 18, 19, 20, 21, 22, 23, 24, 25, 26, 27, 28, 29, 30, 31], [0, 1, 2, 3, 4, 5, 6, 7, 8, 9, 10, 11, 12, 13, 14, 15, 16, 17, 18, 19, 20, 21, 22, 23, 24, 25, 26, 27, 28, 29, 30, 31, 32], [0, 1, 2, 3, 4, 5, 6, 7, 8, 9, 10, 11, 12, 13, 14, 15, 16, 17, 18, 19, 20, 21, 22, 23, 24, 25, 26, 27, 28, 29, 30, 31, 32, 33]], [25], [30], [0], false, []⟩
  | _, _ => ⟨[], [], [], [], [], false, []⟩
noncomputable def watershedkit_KeptInts_3_tb : List (CE CT Try.prog) := [watershedkit_mark_ce]
noncomputable def watershedkit_KeptInts_3_l1 (a : ((List (Int)) × (Nat × Nat × Nat × Nat × Unit) × (Int) × Unit) × ((List (DEntryX)) × Unit)) : Option ((((List (Int)) × (Nat × Nat × Nat × Nat × Unit) × (Int) × Unit) × ((List (DEntryX)) × Unit)) ⊕ ((((Bool) × Unit) × ((List (DEntryX)) × Unit)) ⊕ ((Unit) × ((List (DEntryX)) × Unit)))) :=
  (bif (decide ((a.1.2.2.1 : Int) < ((a.1.2.1.2.2.1 : Nat) : Int))) then
  (bif (decide ((a.1.2.2.1 : Int) < (a.1.1.length : Int))) then
  (if 0 ≤ (a.1.2.2.1 : Int) ∧ (a.1.2.2.1 : Int) < ((a.1.2.1.2.2.1 : Nat) : Int) then
  (getI a.1.1 a.1.2.2.1).bind fun e1 =>
  (a.2.1[a.1.2.1.1]?).bind fun e2 =>
  ((e2.config.learners.1 ++ e2.config.learners.2)[(a.1.2.1.2.1 + (a.1.2.2.1 : Int).toNat)]?).bind fun e3 =>
  (bif (!(decide ((e3 : Int) = e1))) then
  some (.inr (.inl ((false, ()), (a.2.1, ()))))
  else
  (bif (decide (((a.1.1.length : Int) : Int) ≤ a.1.2.2.1)) then
  (if 0 ≤ (a.1.2.2.1 : Int) ∧ (a.1.2.2.1 : Int) < ((a.1.2.1.2.2.1 : Nat) : Int) then
  (a.2.1[a.1.2.1.1]?).bind fun e4 =>
  ((e4.config.learners.1 ++ e4.config.learners.2)[(a.1.2.1.2.1 + (a.1.2.2.1 : Int).toNat)]?).bind fun e5 =>
  (watershedkit_mark 1 (IntKind.i64.wrap (a.1.2.2.1 - (a.1.1.length : Int)))).bind fun r6 =>
  (bif (!(decide ((e5 : Int) = r6.1))) then
  some (.inr (.inl ((false, ()), (a.2.1, ()))))
  else
  some (.inl ((a.1.1, (a.1.2.1.1, a.1.2.1.2.1, a.1.2.1.2.2.1, a.1.2.1.2.2.2.1, ()), (IntKind.i64.wrap (a.1.2.2.1 + 1)), ()), (a.2.1, ()))))
  else none)
  else
  some (.inl ((a.1.1, (a.1.2.1.1, a.1.2.1.2.1, a.1.2.1.2.2.1, a.1.2.1.2.2.2.1, ()), (IntKind.i64.wrap (a.1.2.2.1 + 1)), ()), (a.2.1, ())))))
  else none)
  else
  (bif (decide (((a.1.1.length : Int) : Int) ≤ a.1.2.2.1)) then
  (if 0 ≤ (a.1.2.2.1 : Int) ∧ (a.1.2.2.1 : Int) < ((a.1.2.1.2.2.1 : Nat) : Int) then
  (a.2.1[a.1.2.1.1]?).bind fun e7 =>
  ((e7.config.learners.1 ++ e7.config.learners.2)[(a.1.2.1.2.1 + (a.1.2.2.1 : Int).toNat)]?).bind fun e8 =>
  (watershedkit_mark 1 (IntKind.i64.wrap (a.1.2.2.1 - (a.1.1.length : Int)))).bind fun r9 =>
  (bif (!(decide ((e8 : Int) = r9.1))) then
  some (.inr (.inl ((false, ()), (a.2.1, ()))))
  else
  some (.inl ((a.1.1, (a.1.2.1.1, a.1.2.1.2.1, a.1.2.1.2.2.1, a.1.2.1.2.2.2.1, ()), (IntKind.i64.wrap (a.1.2.2.1 + 1)), ()), (a.2.1, ()))))
  else none)
  else
  some (.inl ((a.1.1, (a.1.2.1.1, a.1.2.1.2.1, a.1.2.1.2.2.1, a.1.2.1.2.2.2.1, ()), (IntKind.i64.wrap (a.1.2.2.1 + 1)), ()), (a.2.1, ())))))
  else
  some (.inr (.inr ((), (a.2.1, ())))))
noncomputable def watershedkit_KeptInts_3_e1 : LE CT Try.prog := ⟨5, [1, 5, 6], [.one (.sl 0), .one (.gv 0 1310 4), .one (.int .i64)], [.gen 8 true], [⟨.ret, [4], [.one (.bool)], [.gen 8 true]⟩, ⟨.exit 0, [], [], [.gen 8 true]⟩], watershedkit_KeptInts_3_l1⟩
noncomputable def watershedkit_KeptInts_3_lt : List (LE CT Try.prog) := [watershedkit_KeptInts_3_e1]
theorem watershedkit_KeptInts_3_e1_ok : LeOk watershedkit_KeptInts_3_e1 (nthL (bodyOf Try.f70) 0) := fun A env h k z hk => le_ok (E := watershedkit_KeptInts_3_e1) (orcOfX_ok HK0 watershedkit_KeptInts_3_tb) (dr := watershedkit_KeptInts_3_dr) (lps := lpsOf watershedkit_KeptInts_3_lt) (no_loop (by kernel_rfl)) (fun a => by kernel_rfl) env h k z hk
noncomputable def watershedkit_KeptInts_3 (x0 : Nat × Nat × Nat × Nat × Unit) (x1 : List (Int)) (h0 : List (DEntryX)) : Option ((Bool) × ((List (DEntryX)) × Unit)) :=
  (bif (decide ((((x0.2.2.1 : Nat) : Int) : Int) ≠ (x1.length : Int))) then
  some (false, (h0, ()))
  else
  (if 0 ≤ (0 : Int) ∧ (0 : Int) ≤ ((IntKind.i64.wrap ((x1.length : Int) + 12)) : Int) ∧ ((IntKind.i64.wrap ((x1.length : Int) + 12)) : Int) ≤ ((x0.2.2.2.1 : Nat) : Int) ∧ ((0 : Int) = 0 ∨ (0 : Int) < ((x0.2.2.2.1 : Nat) : Int)) then
  (loopM watershedkit_KeptInts_3_l1 ((x1, (x0.1, (x0.2.1 + (0 : Int).toNat), (((IntKind.i64.wrap ((x1.length : Int) + 12)) : Int).toNat - (0 : Int).toNat), (x0.2.2.2.1 - (0 : Int).toNat), ()), 0, ()), (h0, ()))).bind fun b1 =>
  (match b1 with
  | .inl b2 =>
  some (b2.1.1, (b2.2.1, ()))
  | .inr b3 =>
  some (true, (b3.2.1, ())))
  else none))
noncomputable def watershedkit_KeptInts_3_ce : CE CT Try.prog where
  f := 70
  args := [.one (.gv 0 1310 4), .one (.sl 0)]
  hs := [.gen 8 true]
  res := .val (.one (.bool))
  outs := [.gen 8 true]
  m := fun d dh => watershedkit_KeptInts_3 d.1 d.2.1 dh.1
  ok := ce_ok mixedP Try.func70 (by kernel_rfl) (orcOfX_ok HK0 watershedkit_KeptInts_3_tb) (dr := watershedkit_KeptInts_3_dr) (lps := lpsOf watershedkit_KeptInts_3_lt) (lps_fn (lps_of (n := 1) (by kernel_rfl) fun i hi => match i, hi with | 0, _ => lp_ok (E := watershedkit_KeptInts_3_e1) (by kernel_rfl) watershedkit_KeptInts_3_e1_ok)) (fun d dh => by kernel_rfl)

def watershedkit_KeptInts_4_dr : Nat → Nat → DrA
  | 7, _ => ⟨[0, 1, 2, 3, 4, 5, 6, 7, 9, 10, 11, 8, 12, 13, 14, 15, 16, 17, 18, 19, 20, 21, 22, 23, 24, 26, 27, 28, 29, 25, 30, 31, 32, 33, 34], [[], [], [1], [0, 1, 2], [0, 1, 2, 3], [0, 1, 2, 3, 4], [0, 1, 2, 3, 4], [0, 1, 2, 3, 4, 5, 6], [0, 1, 2, 3, 4, 5, 6, 7], [0, 1, 2, 3, 4], [0, 1, 2, 3, 4], [0, 1, 2, 3, 4, 9, 10], [0, 1, 2, 3, 4, 9, 10, 11], [0, 1, 2, 3, 4, 5, 6, 7, 8, 9, 10, 11, 12], [0, 1, 2, 3, 4, 5, 6, 7, 8, 9, 10, 11, 12, 13], [0, 1, 2, 3, 4, 5, 6, 7, 8, 9, 10, 11, 12, 13, 14], [0, 1, 2, 3, 4, 5, 6, 7, 8, 9, 10, 11, 12, 13, 14, 15], [0, 1, 2, 3, 4, 5, 6, 7, 8, 9, 10, 11, 12, 13, 14, 15, 16], [0, 1, 2, 3, 4, 5, 6, 7, 8, 9, 10, 11, 12, 13, 14, 15, 16], [0, 1, 2, 3, 4, 5, 6, 7, 8, 9, 10, 11, 12, 13, 14, 15, 16, 18], [0, 1, 2, 3, 4, 5, 6, 7, 8, 9, 10, 11, 12, 13, 14, 15, 16, 17, 18, 19], [0, 1, 2, 3, 4, 5, 6, 7, 8, 9, 10, 11, 12, 13, 14, 15, 16, 17, 18, 19, 20], [0, 1, 2, 3, 4, 5, 6, 7, 8, 9, 10, 11, 12, 13, 14, 15, 16, 17, 18, 19, 20, 21], [0, 1, 2, 3, 4, 5, 6, 7, 8, 9, 10, 11, 12, 13, 14, 15, 16, 17, 18, 19, 20, 21], [0, 1, 2, 3, 4, 5, 6, 7, 8, 9, 10, 11, 12, 13, 14, 15, 16, 17, 18, 19, 20, 21, 22, 23], [0, 1, 2, 3, 4, 5, 6, 7, 8, 9, 10, 11, 12, 13, 14, 15, 16, 17, 18, 19, 20, 21, 22, 23, 24], [0, 1, 2, 3, 4, 5, 6, 7, 8, 9, 10, 11, 12, 13, 14, 15, 16, 17, 18, 19, 20, 21], [0, 1, 2, 3, 4, 5, 6, 7, 8, 9, 10, 11, 12, 13, 14, 15, 16, 17, 18, 19, 20, 21], [0, 1, 2, 3, 4, 5, 6, 7, 8, 9, 10, 11, 12, 13, 14, 15, 16, 17, 18, 19, 20, 21, 27], [0, 1, 2, 3, 4, 5, 6, 7, 8, 9, 10, 11, 12, 13, 14, 15, 16, 17, 18, 19, 20, 21, 26, 27, 28], [0, 1, 2, 3, 4, 5, 6, 7, 8, 9, 10, 11, 12, 13, 14, 15, 16, 17, 18, 19, 20, 21, 26, 27, 28, 29], [0, 1, 2, 3, 4, 5, 6, 7, 8, 9, 10, 11, 12, 13, 14, 15, 16, 17, 18, 19, 20, 21, 22, 23, 24, 25, 26, 27, 28, 29, 30], [0, 1, 2, 3, 4, 5, 6, 7, 8, 9, 10, 11, 12, 13, 14, 15, 16, 17, 18, 19, 20, 21, 22, 23, 24, 25, 26, 27, 28, 29, 30, 31], [0, 1, 2, 3, 4, 5, 6, 7, 8, 9, 10, 11, 12, 13, 14, 15, 16, 17, 18, 19, 20, 21, 22, 23, 24, 25, 26, 27, 28, 29, 30, 31, 32], [0, 1, 2, 3, 4, 5, 6, 7, 8, 9, 10, 11, 12, 13, 14, 15, 16, 17, 18, 19, 20, 21, 22, 23, 24, 25, 26, 27, 28, 29, 30, 31, 32, 33]], [25], [30], [0], false, []⟩
  | _, _ => ⟨[], [], [], [], [], false, []⟩
noncomputable def watershedkit_KeptInts_4_tb : List (CE CT Try.prog) := [watershedkit_mark_ce]
noncomputable def watershedkit_KeptInts_4_l1 (a : ((List (Int)) × (Nat × Nat × Nat × Nat × Unit) × (Int) × Unit) × ((List (DEntryX)) × Unit)) : Option ((((List (Int)) × (Nat × Nat × Nat × Nat × Unit) × (Int) × Unit) × ((List (DEntryX)) × Unit)) ⊕ ((((Bool) × Unit) × ((List (DEntryX)) × Unit)) ⊕ ((Unit) × ((List (DEntryX)) × Unit)))) :=
  (bif (decide ((a.1.2.2.1 : Int) < ((a.1.2.1.2.2.1 : Nat) : Int))) then
  (bif (decide ((a.1.2.2.1 : Int) < (a.1.1.length : Int))) then
  (if 0 ≤ (a.1.2.2.1 : Int) ∧ (a.1.2.2.1 : Int) < ((a.1.2.1.2.2.1 : Nat) : Int) then
  (getI a.1.1 a.1.2.2.1).bind fun e1 =>
  (a.2.1[a.1.2.1.1]?).bind fun e2 =>
  ((e2.config.want.1 ++ e2.config.want.2)[(a.1.2.1.2.1 + (a.1.2.2.1 : Int).toNat)]?).bind fun e3 =>
  (bif (!(decide ((e3 : Int) = e1))) then
  some (.inr (.inl ((false, ()), (a.2.1, ()))))
  else
  (bif (decide (((a.1.1.length : Int) : Int) ≤ a.1.2.2.1)) then
  (if 0 ≤ (a.1.2.2.1 : Int) ∧ (a.1.2.2.1 : Int) < ((a.1.2.1.2.2.1 : Nat) : Int) then
  (a.2.1[a.1.2.1.1]?).bind fun e4 =>
  ((e4.config.want.1 ++ e4.config.want.2)[(a.1.2.1.2.1 + (a.1.2.2.1 : Int).toNat)]?).bind fun e5 =>
  (watershedkit_mark 1 (IntKind.i64.wrap (a.1.2.2.1 - (a.1.1.length : Int)))).bind fun r6 =>
  (bif (!(decide ((e5 : Int) = r6.1))) then
  some (.inr (.inl ((false, ()), (a.2.1, ()))))
  else
  some (.inl ((a.1.1, (a.1.2.1.1, a.1.2.1.2.1, a.1.2.1.2.2.1, a.1.2.1.2.2.2.1, ()), (IntKind.i64.wrap (a.1.2.2.1 + 1)), ()), (a.2.1, ()))))
  else none)
  else
  some (.inl ((a.1.1, (a.1.2.1.1, a.1.2.1.2.1, a.1.2.1.2.2.1, a.1.2.1.2.2.2.1, ()), (IntKind.i64.wrap (a.1.2.2.1 + 1)), ()), (a.2.1, ())))))
  else none)
  else
  (bif (decide (((a.1.1.length : Int) : Int) ≤ a.1.2.2.1)) then
  (if 0 ≤ (a.1.2.2.1 : Int) ∧ (a.1.2.2.1 : Int) < ((a.1.2.1.2.2.1 : Nat) : Int) then
  (a.2.1[a.1.2.1.1]?).bind fun e7 =>
  ((e7.config.want.1 ++ e7.config.want.2)[(a.1.2.1.2.1 + (a.1.2.2.1 : Int).toNat)]?).bind fun e8 =>
  (watershedkit_mark 1 (IntKind.i64.wrap (a.1.2.2.1 - (a.1.1.length : Int)))).bind fun r9 =>
  (bif (!(decide ((e8 : Int) = r9.1))) then
  some (.inr (.inl ((false, ()), (a.2.1, ()))))
  else
  some (.inl ((a.1.1, (a.1.2.1.1, a.1.2.1.2.1, a.1.2.1.2.2.1, a.1.2.1.2.2.2.1, ()), (IntKind.i64.wrap (a.1.2.2.1 + 1)), ()), (a.2.1, ()))))
  else none)
  else
  some (.inl ((a.1.1, (a.1.2.1.1, a.1.2.1.2.1, a.1.2.1.2.2.1, a.1.2.1.2.2.2.1, ()), (IntKind.i64.wrap (a.1.2.2.1 + 1)), ()), (a.2.1, ())))))
  else
  some (.inr (.inr ((), (a.2.1, ())))))
noncomputable def watershedkit_KeptInts_4_e1 : LE CT Try.prog := ⟨5, [1, 5, 6], [.one (.sl 0), .one (.gv 0 1566 4), .one (.int .i64)], [.gen 8 true], [⟨.ret, [4], [.one (.bool)], [.gen 8 true]⟩, ⟨.exit 0, [], [], [.gen 8 true]⟩], watershedkit_KeptInts_4_l1⟩
noncomputable def watershedkit_KeptInts_4_lt : List (LE CT Try.prog) := [watershedkit_KeptInts_4_e1]
theorem watershedkit_KeptInts_4_e1_ok : LeOk watershedkit_KeptInts_4_e1 (nthL (bodyOf Try.f70) 0) := fun A env h k z hk => le_ok (E := watershedkit_KeptInts_4_e1) (orcOfX_ok HK0 watershedkit_KeptInts_4_tb) (dr := watershedkit_KeptInts_4_dr) (lps := lpsOf watershedkit_KeptInts_4_lt) (no_loop (by kernel_rfl)) (fun a => by kernel_rfl) env h k z hk
noncomputable def watershedkit_KeptInts_4 (x0 : Nat × Nat × Nat × Nat × Unit) (x1 : List (Int)) (h0 : List (DEntryX)) : Option ((Bool) × ((List (DEntryX)) × Unit)) :=
  (bif (decide ((((x0.2.2.1 : Nat) : Int) : Int) ≠ (x1.length : Int))) then
  some (false, (h0, ()))
  else
  (if 0 ≤ (0 : Int) ∧ (0 : Int) ≤ ((IntKind.i64.wrap ((x1.length : Int) + 12)) : Int) ∧ ((IntKind.i64.wrap ((x1.length : Int) + 12)) : Int) ≤ ((x0.2.2.2.1 : Nat) : Int) ∧ ((0 : Int) = 0 ∨ (0 : Int) < ((x0.2.2.2.1 : Nat) : Int)) then
  (loopM watershedkit_KeptInts_4_l1 ((x1, (x0.1, (x0.2.1 + (0 : Int).toNat), (((IntKind.i64.wrap ((x1.length : Int) + 12)) : Int).toNat - (0 : Int).toNat), (x0.2.2.2.1 - (0 : Int).toNat), ()), 0, ()), (h0, ()))).bind fun b1 =>
  (match b1 with
  | .inl b2 =>
  some (b2.1.1, (b2.2.1, ()))
  | .inr b3 =>
  some (true, (b3.2.1, ())))
  else none))
noncomputable def watershedkit_KeptInts_4_ce : CE CT Try.prog where
  f := 70
  args := [.one (.gv 0 1566 4), .one (.sl 0)]
  hs := [.gen 8 true]
  res := .val (.one (.bool))
  outs := [.gen 8 true]
  m := fun d dh => watershedkit_KeptInts_4 d.1 d.2.1 dh.1
  ok := ce_ok mixedP Try.func70 (by kernel_rfl) (orcOfX_ok HK0 watershedkit_KeptInts_4_tb) (dr := watershedkit_KeptInts_4_dr) (lps := lpsOf watershedkit_KeptInts_4_lt) (lps_fn (lps_of (n := 1) (by kernel_rfl) fun i hi => match i, hi with | 0, _ => lp_ok (E := watershedkit_KeptInts_4_e1) (by kernel_rfl) watershedkit_KeptInts_4_e1_ok)) (fun d dh => by kernel_rfl)

def watershedkit_KeptConfig_dr : Nat → Nat → DrA
  | _, _ => ⟨[], [], [], [], [], false, []⟩
noncomputable def watershedkit_KeptConfig_tb : List (CE CT Try.prog) := [watershedkit_SameConfig_4_ce, watershedkit_KeptInts_ce, watershedkit_KeptInts_2_ce, watershedkit_KeptInts_3_ce, watershedkit_KeptInts_4_ce]
noncomputable def watershedkit_KeptConfig_lt : List (LE CT Try.prog) := []
noncomputable def watershedkit_KeptConfig (x0 : (Nat × Nat × Nat × Nat × Unit) × (Nat × Nat × Nat × Nat × Unit) × (Nat × Nat × Nat × Nat × Unit) × (Nat × Nat × Nat × Nat × Unit) × Unit) (x1 : DConfig) (h0 : List (DEntryX)) : Option ((Bool) × ((List (DEntryX)) × Unit)) :=
  (watershedkit_SameConfig_4 ((x0.1.1, x0.1.2.1, x0.1.2.2.1, x0.1.2.2.2.1, ()), (x0.2.1.1, x0.2.1.2.1, x0.2.1.2.2.1, x0.2.1.2.2.2.1, ()), (x0.2.2.1.1, x0.2.2.1.2.1, x0.2.2.1.2.2.1, x0.2.2.1.2.2.2.1, ()), (x0.2.2.2.1.1, x0.2.2.2.1.2.1, x0.2.2.2.1.2.2.1, x0.2.2.2.1.2.2.2.1, ()), ()) x1 h0).bind fun r1 =>
  (bif r1.1 then
  (watershedkit_KeptInts (x0.1.1, x0.1.2.1, x0.1.2.2.1, x0.1.2.2.2.1, ()) x1.voters r1.2.1).bind fun r2 =>
  (bif r2.1 then
  (watershedkit_KeptInts_2 (x0.2.1.1, x0.2.1.2.1, x0.2.1.2.2.1, x0.2.1.2.2.2.1, ()) x1.old r2.2.1).bind fun r3 =>
  (bif r3.1 then
  (watershedkit_KeptInts_3 (x0.2.2.1.1, x0.2.2.1.2.1, x0.2.2.1.2.2.1, x0.2.2.1.2.2.2.1, ()) x1.learners r3.2.1).bind fun r4 =>
  (bif r4.1 then
  (watershedkit_KeptInts_4 (x0.2.2.2.1.1, x0.2.2.2.1.2.1, x0.2.2.2.1.2.2.1, x0.2.2.2.1.2.2.2.1, ()) x1.want r4.2.1).bind fun r5 =>
  some (r5.1, (r5.2.1, ()))
  else
  some (false, (r4.2.1, ())))
  else
  some (false, (r3.2.1, ())))
  else
  some (false, (r2.2.1, ())))
  else
  some (false, (r1.2.1, ())))
noncomputable def watershedkit_KeptConfig_ce : CE CT Try.prog where
  f := 63
  args := [.agg [.gv 0 798 4, .gv 0 1054 4, .gv 0 1310 4, .gv 0 1566 4], .cod 15]
  hs := [.gen 8 true]
  res := .val (.one (.bool))
  outs := [.gen 8 true]
  m := fun d dh => watershedkit_KeptConfig d.1 d.2.1 dh.1
  ok := ce_ok mixedP Try.func63 (by kernel_rfl) (orcOf_ok watershedkit_KeptConfig_tb) (dr := watershedkit_KeptConfig_dr) (lps := lpsOf watershedkit_KeptConfig_lt) (lps_fn (no_loop (by kernel_rfl))) (fun d dh => by kernel_rfl)

def watershedkit_KeptEntry_dr : Nat → Nat → DrA
  | _, _ => ⟨[], [], [], [], [], false, []⟩
noncomputable def watershedkit_KeptEntry_tb : List (CE CT Try.prog) := [watershedkit_SameEntry_2_ce, watershedkit_KeptBytes_ce, watershedkit_KeptConfig_ce]
noncomputable def watershedkit_KeptEntry_lt : List (LE CT Try.prog) := []
noncomputable def watershedkit_KeptEntry (x0 : (Int) × (Int) × (Nat × Nat × Nat × Nat × Unit) × (Nat × Nat × Nat × Nat × Unit) × (Nat × Nat × Nat × Nat × Unit) × (Nat × Nat × Nat × Nat × Unit) × (Nat × Nat × Nat × Nat × Unit) × Unit) (x1 : DEntry) (h0 : List (DEntryX)) : Option ((Bool) × ((List (DEntryX)) × Unit)) :=
  (watershedkit_SameEntry_2 (x0.1, x0.2.1, (x0.2.2.1.1, x0.2.2.1.2.1, x0.2.2.1.2.2.1, x0.2.2.1.2.2.2.1, ()), (x0.2.2.2.1.1, x0.2.2.2.1.2.1, x0.2.2.2.1.2.2.1, x0.2.2.2.1.2.2.2.1, ()), (x0.2.2.2.2.1.1, x0.2.2.2.2.1.2.1, x0.2.2.2.2.1.2.2.1, x0.2.2.2.2.1.2.2.2.1, ()), (x0.2.2.2.2.2.1.1, x0.2.2.2.2.2.1.2.1, x0.2.2.2.2.2.1.2.2.1, x0.2.2.2.2.2.1.2.2.2.1, ()), (x0.2.2.2.2.2.2.1.1, x0.2.2.2.2.2.2.1.2.1, x0.2.2.2.2.2.2.1.2.2.1, x0.2.2.2.2.2.2.1.2.2.2.1, ()), ()) x1 h0).bind fun r1 =>
  (bif r1.1 then
  (watershedkit_KeptBytes (x0.2.2.1.1, x0.2.2.1.2.1, x0.2.2.1.2.2.1, x0.2.2.1.2.2.2.1, ()) x1.command r1.2.1).bind fun r2 =>
  (bif r2.1 then
  (watershedkit_KeptConfig ((x0.2.2.2.1.1, x0.2.2.2.1.2.1, x0.2.2.2.1.2.2.1, x0.2.2.2.1.2.2.2.1, ()), (x0.2.2.2.2.1.1, x0.2.2.2.2.1.2.1, x0.2.2.2.2.1.2.2.1, x0.2.2.2.2.1.2.2.2.1, ()), (x0.2.2.2.2.2.1.1, x0.2.2.2.2.2.1.2.1, x0.2.2.2.2.2.1.2.2.1, x0.2.2.2.2.2.1.2.2.2.1, ()), (x0.2.2.2.2.2.2.1.1, x0.2.2.2.2.2.2.1.2.1, x0.2.2.2.2.2.2.1.2.2.1, x0.2.2.2.2.2.2.1.2.2.2.1, ()), ()) x1.config r2.2.1).bind fun r3 =>
  some (r3.1, (r3.2.1, ()))
  else
  some (false, (r2.2.1, ())))
  else
  some (false, (r1.2.1, ())))
noncomputable def watershedkit_KeptEntry_ce : CE CT Try.prog where
  f := 62
  args := [.agg [.int .i64, .int .u8, .gv 0 542 4, .gv 0 798 4, .gv 0 1054 4, .gv 0 1310 4, .gv 0 1566 4], .cod 16]
  hs := [.gen 8 true]
  res := .val (.one (.bool))
  outs := [.gen 8 true]
  m := fun d dh => watershedkit_KeptEntry d.1 d.2.1 dh.1
  ok := ce_ok mixedP Try.func62 (by kernel_rfl) (orcOf_ok watershedkit_KeptEntry_tb) (dr := watershedkit_KeptEntry_dr) (lps := lpsOf watershedkit_KeptEntry_lt) (lps_fn (no_loop (by kernel_rfl))) (fun d dh => by kernel_rfl)

def watershedkit_KeptEntries_dr : Nat → Nat → DrA
  | 7, _ => ⟨[0, 1, 2, 3, 4, 5, 6, 7, 9, 10, 11, 8, 12, 13, 14, 15, 16, 17, 18, 19, 20, 21, 22, 23, 24, 26, 27, 28, 29, 25, 30, 31, 32, 33, 34], [[], [], [1], [0, 1, 2], [0, 1, 2, 3], [0, 1, 2, 3, 4], [0, 1, 2, 3, 4], [0, 1, 2, 3, 4, 5, 6], [0, 1, 2, 3, 4, 5, 6, 7], [0, 1, 2, 3, 4], [0, 1, 2, 3, 4], [0, 1, 2, 3, 4, 9, 10], [0, 1, 2, 3, 4, 9, 10, 11], [0, 1, 2, 3, 4, 5, 6, 7, 8, 9, 10, 11, 12], [0, 1, 2, 3, 4, 5, 6, 7, 8, 9, 10, 11, 12, 13], [0, 1, 2, 3, 4, 5, 6, 7, 8, 9, 10, 11, 12, 13, 14], [0, 1, 2, 3, 4, 5, 6, 7, 8, 9, 10, 11, 12, 13, 14, 15], [0, 1, 2, 3, 4, 5, 6, 7, 8, 9, 10, 11, 12, 13, 14, 15, 16], [0, 1, 2, 3, 4, 5, 6, 7, 8, 9, 10, 11, 12, 13, 14, 15, 16], [0, 1, 2, 3, 4, 5, 6, 7, 8, 9, 10, 11, 12, 13, 14, 15, 16, 18], [0, 1, 2, 3, 4, 5, 6, 7, 8, 9, 10, 11, 12, 13, 14, 15, 16, 17, 18, 19], [0, 1, 2, 3, 4, 5, 6, 7, 8, 9, 10, 11, 12, 13, 14, 15, 16, 17, 18, 19, 20], [0, 1, 2, 3, 4, 5, 6, 7, 8, 9, 10, 11, 12, 13, 14, 15, 16, 17, 18, 19, 20, 21], [0, 1, 2, 3, 4, 5, 6, 7, 8, 9, 10, 11, 12, 13, 14, 15, 16, 17, 18, 19, 20, 21], [0, 1, 2, 3, 4, 5, 6, 7, 8, 9, 10, 11, 12, 13, 14, 15, 16, 17, 18, 19, 20, 21, 22, 23], [0, 1, 2, 3, 4, 5, 6, 7, 8, 9, 10, 11, 12, 13, 14, 15, 16, 17, 18, 19, 20, 21, 22, 23, 24], [0, 1, 2, 3, 4, 5, 6, 7, 8, 9, 10, 11, 12, 13, 14, 15, 16, 17, 18, 19, 20, 21], [0, 1, 2, 3, 4, 5, 6, 7, 8, 9, 10, 11, 12, 13, 14, 15, 16, 17, 18, 19, 20, 21], [0, 1, 2, 3, 4, 5, 6, 7, 8, 9, 10, 11, 12, 13, 14, 15, 16, 17, 18, 19, 20, 21, 27], [0, 1, 2, 3, 4, 5, 6, 7, 8, 9, 10, 11, 12, 13, 14, 15, 16, 17, 18, 19, 20, 21, 26, 27, 28], [0, 1, 2, 3, 4, 5, 6, 7, 8, 9, 10, 11, 12, 13, 14, 15, 16, 17, 18, 19, 20, 21, 26, 27, 28, 29], [0, 1, 2, 3, 4, 5, 6, 7, 8, 9, 10, 11, 12, 13, 14, 15, 16, 17, 18, 19, 20, 21, 22, 23, 24, 25, 26, 27, 28, 29, 30], [0, 1, 2, 3, 4, 5, 6, 7, 8, 9, 10, 11, 12, 13, 14, 15, 16, 17, 18, 19, 20, 21, 22, 23, 24, 25, 26, 27, 28, 29, 30, 31], [0, 1, 2, 3, 4, 5, 6, 7, 8, 9, 10, 11, 12, 13, 14, 15, 16, 17, 18, 19, 20, 21, 22, 23, 24, 25, 26, 27, 28, 29, 30, 31, 32], [0, 1, 2, 3, 4, 5, 6, 7, 8, 9, 10, 11, 12, 13, 14, 15, 16, 17, 18, 19, 20, 21, 22, 23, 24, 25, 26, 27, 28, 29, 30, 31, 32, 33]], [25], [30], [0], false, []⟩
  | _, _ => ⟨[], [], [], [], [], false, []⟩
noncomputable def watershedkit_KeptEntries_tb : List (CE CT Try.prog) := [watershedkit_KeptEntry_ce, watershedkit_markEntry_ce, watershedkit_SameEntry_2_ce]
noncomputable def watershedkit_KeptEntries_l1 (a : ((List (DEntry)) × (Nat × Nat × Nat × Unit) × (Int) × Unit) × ((List (DEntryX)) × Unit)) : Option ((((List (DEntry)) × (Nat × Nat × Nat × Unit) × (Int) × Unit) × ((List (DEntryX)) × Unit)) ⊕ ((((Bool) × Unit) × ((List (DEntryX)) × Unit)) ⊕ ((Unit) × ((List (DEntryX)) × Unit)))) :=
  (bif (decide ((a.1.2.2.1 : Int) < ((a.1.2.1.2.1 : Nat) : Int))) then
  (bif (decide ((a.1.2.2.1 : Int) < (a.1.1.length : Int))) then
  (if 0 ≤ (a.1.2.2.1 : Int) ∧ (a.1.2.2.1 : Int) < ((a.1.2.1.2.1 : Nat) : Int) then
  (getI a.1.1 a.1.2.2.1).bind fun e1 =>
  (a.2.1[(a.1.2.1.1 + (a.1.2.2.1 : Int).toNat)]?).bind fun e2 =>
  (watershedkit_KeptEntry (e2.term_, e2.kind, ((a.1.2.1.1 + (a.1.2.2.1 : Int).toNat), 0, e2.command.1.length, (e2.command.1.length + e2.command.2.length), ()), ((a.1.2.1.1 + (a.1.2.2.1 : Int).toNat), 0, e2.config.voters.1.length, (e2.config.voters.1.length + e2.config.voters.2.length), ()), ((a.1.2.1.1 + (a.1.2.2.1 : Int).toNat), 0, e2.config.old.1.length, (e2.config.old.1.length + e2.config.old.2.length), ()), ((a.1.2.1.1 + (a.1.2.2.1 : Int).toNat), 0, e2.config.learners.1.length, (e2.config.learners.1.length + e2.config.learners.2.length), ()), ((a.1.2.1.1 + (a.1.2.2.1 : Int).toNat), 0, e2.config.want.1.length, (e2.config.want.1.length + e2.config.want.2.length), ()), ()) e1 a.2.1).bind fun r3 =>
  (bif (!r3.1) then
  some (.inr (.inl ((false, ()), (r3.2.1, ()))))
  else
  (bif (decide (((a.1.1.length : Int) : Int) ≤ a.1.2.2.1)) then
  (if 0 ≤ (a.1.2.2.1 : Int) ∧ (a.1.2.2.1 : Int) < ((a.1.2.1.2.1 : Nat) : Int) then
  (r3.2.1[(a.1.2.1.1 + (a.1.2.2.1 : Int).toNat)]?).bind fun e4 =>
  (watershedkit_markEntry 1 (IntKind.i64.wrap (a.1.2.2.1 - (a.1.1.length : Int)))).bind fun r5 =>
  (watershedkit_SameEntry_2 (e4.term_, e4.kind, ((a.1.2.1.1 + (a.1.2.2.1 : Int).toNat), 0, e4.command.1.length, (e4.command.1.length + e4.command.2.length), ()), ((a.1.2.1.1 + (a.1.2.2.1 : Int).toNat), 0, e4.config.voters.1.length, (e4.config.voters.1.length + e4.config.voters.2.length), ()), ((a.1.2.1.1 + (a.1.2.2.1 : Int).toNat), 0, e4.config.old.1.length, (e4.config.old.1.length + e4.config.old.2.length), ()), ((a.1.2.1.1 + (a.1.2.2.1 : Int).toNat), 0, e4.config.learners.1.length, (e4.config.learners.1.length + e4.config.learners.2.length), ()), ((a.1.2.1.1 + (a.1.2.2.1 : Int).toNat), 0, e4.config.want.1.length, (e4.config.want.1.length + e4.config.want.2.length), ()), ()) (⟨r5.1.1, r5.1.2.1, [], (⟨[], [], [], []⟩ : DConfig)⟩ : DEntry) r3.2.1).bind fun r6 =>
  (bif (!r6.1) then
  some (.inr (.inl ((false, ()), (r6.2.1, ()))))
  else
  some (.inl ((a.1.1, (a.1.2.1.1, a.1.2.1.2.1, a.1.2.1.2.2.1, ()), (IntKind.i64.wrap (a.1.2.2.1 + 1)), ()), (r6.2.1, ()))))
  else none)
  else
  some (.inl ((a.1.1, (a.1.2.1.1, a.1.2.1.2.1, a.1.2.1.2.2.1, ()), (IntKind.i64.wrap (a.1.2.2.1 + 1)), ()), (r3.2.1, ())))))
  else none)
  else
  (bif (decide (((a.1.1.length : Int) : Int) ≤ a.1.2.2.1)) then
  (if 0 ≤ (a.1.2.2.1 : Int) ∧ (a.1.2.2.1 : Int) < ((a.1.2.1.2.1 : Nat) : Int) then
  (a.2.1[(a.1.2.1.1 + (a.1.2.2.1 : Int).toNat)]?).bind fun e7 =>
  (watershedkit_markEntry 1 (IntKind.i64.wrap (a.1.2.2.1 - (a.1.1.length : Int)))).bind fun r8 =>
  (watershedkit_SameEntry_2 (e7.term_, e7.kind, ((a.1.2.1.1 + (a.1.2.2.1 : Int).toNat), 0, e7.command.1.length, (e7.command.1.length + e7.command.2.length), ()), ((a.1.2.1.1 + (a.1.2.2.1 : Int).toNat), 0, e7.config.voters.1.length, (e7.config.voters.1.length + e7.config.voters.2.length), ()), ((a.1.2.1.1 + (a.1.2.2.1 : Int).toNat), 0, e7.config.old.1.length, (e7.config.old.1.length + e7.config.old.2.length), ()), ((a.1.2.1.1 + (a.1.2.2.1 : Int).toNat), 0, e7.config.learners.1.length, (e7.config.learners.1.length + e7.config.learners.2.length), ()), ((a.1.2.1.1 + (a.1.2.2.1 : Int).toNat), 0, e7.config.want.1.length, (e7.config.want.1.length + e7.config.want.2.length), ()), ()) (⟨r8.1.1, r8.1.2.1, [], (⟨[], [], [], []⟩ : DConfig)⟩ : DEntry) a.2.1).bind fun r9 =>
  (bif (!r9.1) then
  some (.inr (.inl ((false, ()), (r9.2.1, ()))))
  else
  some (.inl ((a.1.1, (a.1.2.1.1, a.1.2.1.2.1, a.1.2.1.2.2.1, ()), (IntKind.i64.wrap (a.1.2.2.1 + 1)), ()), (r9.2.1, ()))))
  else none)
  else
  some (.inl ((a.1.1, (a.1.2.1.1, a.1.2.1.2.1, a.1.2.1.2.2.1, ()), (IntKind.i64.wrap (a.1.2.2.1 + 1)), ()), (a.2.1, ())))))
  else
  some (.inr (.inr ((), (a.2.1, ())))))
noncomputable def watershedkit_KeptEntries_e1 : LE CT Try.prog := ⟨5, [1, 5, 6], [.one (.sl 16), .one (.gv 0 28 3), .one (.int .i64)], [.gen 8 true], [⟨.ret, [4], [.one (.bool)], [.gen 8 true]⟩, ⟨.exit 0, [], [], [.gen 8 true]⟩], watershedkit_KeptEntries_l1⟩
noncomputable def watershedkit_KeptEntries_lt : List (LE CT Try.prog) := [watershedkit_KeptEntries_e1]
theorem watershedkit_KeptEntries_e1_ok : LeOk watershedkit_KeptEntries_e1 (nthL (bodyOf Try.f43) 0) := fun A env h k z hk => le_ok (E := watershedkit_KeptEntries_e1) (orcOfX_ok HK0 watershedkit_KeptEntries_tb) (dr := watershedkit_KeptEntries_dr) (lps := lpsOf watershedkit_KeptEntries_lt) (no_loop (by kernel_rfl)) (fun a => by kernel_rfl) env h k z hk
noncomputable def watershedkit_KeptEntries (x0 : Nat × Nat × Nat × Unit) (x1 : List (DEntry)) (h0 : List (DEntryX)) : Option ((Bool) × ((List (DEntryX)) × Unit)) :=
  (bif (decide ((((x0.2.1 : Nat) : Int) : Int) ≠ (x1.length : Int))) then
  some (false, (h0, ()))
  else
  (if 0 ≤ (0 : Int) ∧ (0 : Int) ≤ ((IntKind.i64.wrap ((x1.length : Int) + 12)) : Int) ∧ ((IntKind.i64.wrap ((x1.length : Int) + 12)) : Int) ≤ ((x0.2.2.1 - x0.1 : Nat) : Int) ∧ (0 : Int) < ((x0.2.2.1 - x0.1 : Nat) : Int) then
  (loopM watershedkit_KeptEntries_l1 ((x1, ((x0.1 + (0 : Int).toNat), (((IntKind.i64.wrap ((x1.length : Int) + 12)) : Int).toNat - (0 : Int).toNat), x0.2.2.1, ()), 0, ()), (h0, ()))).bind fun b1 =>
  (match b1 with
  | .inl b2 =>
  some (b2.1.1, (b2.2.1, ()))
  | .inr b3 =>
  some (true, (b3.2.1, ())))
  else none))
noncomputable def watershedkit_KeptEntries_ce : CE CT Try.prog where
  f := 43
  args := [.one (.gv 0 28 3), .one (.sl 16)]
  hs := [.gen 8 true]
  res := .val (.one (.bool))
  outs := [.gen 8 true]
  m := fun d dh => watershedkit_KeptEntries d.1 d.2.1 dh.1
  ok := ce_ok mixedP Try.func43 (by kernel_rfl) (orcOfX_ok HK0 watershedkit_KeptEntries_tb) (dr := watershedkit_KeptEntries_dr) (lps := lpsOf watershedkit_KeptEntries_lt) (lps_fn (lps_of (n := 1) (by kernel_rfl) fun i hi => match i, hi with | 0, _ => lp_ok (E := watershedkit_KeptEntries_e1) (by kernel_rfl) watershedkit_KeptEntries_e1_ok)) (fun d dh => by kernel_rfl)

def watershedkit_KeptInts_5_dr : Nat → Nat → DrA
  | 7, _ => ⟨[0, 1, 2, 3, 4, 5, 6, 7, 9, 10, 11, 8, 12, 13, 14, 15, 16, 17, 18, 19, 20, 21, 22, 23, 24, 26, 27, 28, 29, 25, 30, 31, 32, 33, 34], [[], [], [1], [0, 1, 2], [0, 1, 2, 3], [0, 1, 2, 3, 4], [0, 1, 2, 3, 4], [0, 1, 2, 3, 4, 5, 6], [0, 1, 2, 3, 4, 5, 6, 7], [0, 1, 2, 3, 4], [0, 1, 2, 3, 4], [0, 1, 2, 3, 4, 9, 10], [0, 1, 2, 3, 4, 9, 10, 11], [0, 1, 2, 3, 4, 5, 6, 7, 8, 9, 10, 11, 12], [0, 1, 2, 3, 4, 5, 6, 7, 8, 9, 10, 11, 12, 13], [0, 1, 2, 3, 4, 5, 6, 7, 8, 9, 10, 11, 12, 13, 14], [0, 1, 2, 3, 4, 5, 6, 7, 8, 9, 10, 11, 12, 13, 14, 15], [0, 1, 2, 3, 4, 5, 6, 7, 8, 9, 10, 11, 12, 13, 14, 15, 16], [0, 1, 2, 3, 4, 5, 6, 7, 8, 9, 10, 11, 12, 13, 14, 15, 16], [0, 1, 2, 3, 4, 5, 6, 7, 8, 9, 10, 11, 12, 13, 14, 15, 16, 18], [0, 1, 2, 3, 4, 5, 6, 7, 8, 9, 10, 11, 12, 13, 14, 15, 16, 17, 18, 19], [0, 1, 2, 3, 4, 5, 6, 7, 8, 9, 10, 11, 12, 13, 14, 15, 16, 17, 18, 19, 20], [0, 1, 2, 3, 4, 5, 6, 7, 8, 9, 10, 11, 12, 13, 14, 15, 16, 17, 18, 19, 20, 21], [0, 1, 2, 3, 4, 5, 6, 7, 8, 9, 10, 11, 12, 13, 14, 15, 16, 17, 18, 19, 20, 21], [0, 1, 2, 3, 4, 5, 6, 7, 8, 9, 10, 11, 12, 13, 14, 15, 16, 17, 18, 19, 20, 21, 22, 23], [0, 1, 2, 3, 4, 5, 6, 7, 8, 9, 10, 11, 12, 13, 14, 15, 16, 17, 18, 19, 20, 21, 22, 23, 24], [0, 1, 2, 3, 4, 5, 6, 7, 8, 9, 10, 11, 12, 13, 14, 15, 16, 17, 18, 19, 20, 21], [0, 1, 2, 3, 4, 5, 6, 7, 8, 9, 10, 11, 12, 13, 14, 15, 16, 17, 18, 19, 20, 21], [0, 1, 2, 3, 4, 5, 6, 7, 8, 9, 10, 11, 12, 13, 14, 15, 16, 17, 18, 19, 20, 21, 27], [0, 1, 2, 3, 4, 5, 6, 7, 8, 9, 10, 11, 12, 13, 14, 15, 16, 17, 18, 19, 20, 21, 26, 27, 28], [0, 1, 2, 3, 4, 5, 6, 7, 8, 9, 10, 11, 12, 13, 14, 15, 16, 17, 18, 19, 20, 21, 26, 27, 28, 29], [0, 1, 2, 3, 4, 5, 6, 7, 8, 9, 10, 11, 12, 13, 14, 15, 16, 17, 18, 19, 20, 21, 22, 23, 24, 25, 26, 27, 28, 29, 30], [0, 1, 2, 3, 4, 5, 6, 7, 8, 9, 10, 11, 12, 13, 14, 15, 16, 17, 18, 19, 20, 21, 22, 23, 24, 25, 26, 27, 28, 29, 30, 31], [0, 1, 2, 3, 4, 5, 6, 7, 8, 9, 10, 11, 12, 13, 14, 15, 16, 17, 18, 19, 20, 21, 22, 23, 24, 25, 26, 27, 28, 29, 30, 31, 32], [0, 1, 2, 3, 4, 5, 6, 7, 8, 9, 10, 11, 12, 13, 14, 15, 16, 17, 18, 19, 20, 21, 22, 23, 24, 25, 26, 27, 28, 29, 30, 31, 32, 33]], [25], [30], [0], false, []⟩
  | _, _ => ⟨[], [], [], [], [], false, []⟩
noncomputable def watershedkit_KeptInts_5_tb : List (CE CT Try.prog) := [watershedkit_mark_ce]
noncomputable def watershedkit_KeptInts_5_l1 (a : ((List (Int)) × (Nat × Nat × Nat) × (Int) × Unit) × ((List (Int)) × Unit)) : Option ((((List (Int)) × (Nat × Nat × Nat) × (Int) × Unit) × ((List (Int)) × Unit)) ⊕ ((((Bool) × Unit) × ((List (Int)) × Unit)) ⊕ ((Unit) × ((List (Int)) × Unit)))) :=
  (bif (decide ((a.1.2.2.1 : Int) < ((a.1.2.1.2.1 : Nat) : Int))) then
  (bif (decide ((a.1.2.2.1 : Int) < (a.1.1.length : Int))) then
  (if 0 ≤ (a.1.2.2.1 : Int) ∧ (a.1.2.2.1 : Int) < ((a.1.2.1.2.1 : Nat) : Int) then
  (getI a.1.1 a.1.2.2.1).bind fun e1 =>
  (a.2.1[(a.1.2.1.1 + (a.1.2.2.1 : Int).toNat)]?).bind fun e2 =>
  (bif (!(decide ((e2 : Int) = e1))) then
  some (.inr (.inl ((false, ()), (a.2.1, ()))))
  else
  (bif (decide (((a.1.1.length : Int) : Int) ≤ a.1.2.2.1)) then
  (if 0 ≤ (a.1.2.2.1 : Int) ∧ (a.1.2.2.1 : Int) < ((a.1.2.1.2.1 : Nat) : Int) then
  (a.2.1[(a.1.2.1.1 + (a.1.2.2.1 : Int).toNat)]?).bind fun e3 =>
  (watershedkit_mark 1 (IntKind.i64.wrap (a.1.2.2.1 - (a.1.1.length : Int)))).bind fun r4 =>
  (bif (!(decide ((e3 : Int) = r4.1))) then
  some (.inr (.inl ((false, ()), (a.2.1, ()))))
  else
  some (.inl ((a.1.1, (a.1.2.1.1, a.1.2.1.2.1, a.1.2.1.2.2), (IntKind.i64.wrap (a.1.2.2.1 + 1)), ()), (a.2.1, ()))))
  else none)
  else
  some (.inl ((a.1.1, (a.1.2.1.1, a.1.2.1.2.1, a.1.2.1.2.2), (IntKind.i64.wrap (a.1.2.2.1 + 1)), ()), (a.2.1, ())))))
  else none)
  else
  (bif (decide (((a.1.1.length : Int) : Int) ≤ a.1.2.2.1)) then
  (if 0 ≤ (a.1.2.2.1 : Int) ∧ (a.1.2.2.1 : Int) < ((a.1.2.1.2.1 : Nat) : Int) then
  (a.2.1[(a.1.2.1.1 + (a.1.2.2.1 : Int).toNat)]?).bind fun e5 =>
  (watershedkit_mark 1 (IntKind.i64.wrap (a.1.2.2.1 - (a.1.1.length : Int)))).bind fun r6 =>
  (bif (!(decide ((e5 : Int) = r6.1))) then
  some (.inr (.inl ((false, ()), (a.2.1, ()))))
  else
  some (.inl ((a.1.1, (a.1.2.1.1, a.1.2.1.2.1, a.1.2.1.2.2), (IntKind.i64.wrap (a.1.2.2.1 + 1)), ()), (a.2.1, ()))))
  else none)
  else
  some (.inl ((a.1.1, (a.1.2.1.1, a.1.2.1.2.1, a.1.2.1.2.2), (IntKind.i64.wrap (a.1.2.2.1 + 1)), ()), (a.2.1, ())))))
  else
  some (.inr (.inr ((), (a.2.1, ())))))
noncomputable def watershedkit_KeptInts_5_e1 : LE CT Try.prog := ⟨5, [1, 5, 6], [.one (.sl 0), .one (.as 0 0), .one (.int .i64)], [.arr 3 0 true], [⟨.ret, [4], [.one (.bool)], [.arr 3 0 true]⟩, ⟨.exit 0, [], [], [.arr 3 0 true]⟩], watershedkit_KeptInts_5_l1⟩
noncomputable def watershedkit_KeptInts_5_lt : List (LE CT Try.prog) := [watershedkit_KeptInts_5_e1]
theorem watershedkit_KeptInts_5_e1_ok : LeOk watershedkit_KeptInts_5_e1 (nthL (bodyOf Try.f70) 0) := fun A env h k z hk => le_ok (E := watershedkit_KeptInts_5_e1) (orcOf_ok watershedkit_KeptInts_5_tb) (dr := watershedkit_KeptInts_5_dr) (lps := lpsOf watershedkit_KeptInts_5_lt) (no_loop (by kernel_rfl)) (fun a => by kernel_rfl) env h k z hk
noncomputable def watershedkit_KeptInts_5 (x0 : Nat × Nat × Nat) (x1 : List (Int)) (h0 : List (Int)) : Option ((Bool) × ((List (Int)) × Unit)) :=
  (bif (decide ((((x0.2.1 : Nat) : Int) : Int) ≠ (x1.length : Int))) then
  some (false, (h0, ()))
  else
  (if 0 ≤ ((0 : Int) : Int) ∧ ((0 : Int) : Int) ≤ ((IntKind.i64.wrap ((x1.length : Int) + 12)) : Int) ∧ ((IntKind.i64.wrap ((x1.length : Int) + 12)) : Int) ≤ ((x0.2.2 : Nat) : Int) ∧ ((IntKind.i64.wrap ((x1.length : Int) + 12)) : Int) ≤ 140737488355328 then
  (loopM watershedkit_KeptInts_5_l1 ((x1, ((x0.1 + (0 : Int).toNat), (((IntKind.i64.wrap ((x1.length : Int) + 12)) : Int).toNat - (0 : Int).toNat), (x0.2.2 - (0 : Int).toNat)), 0, ()), (h0, ()))).bind fun b1 =>
  (match b1 with
  | .inl b2 =>
  some (b2.1.1, (b2.2.1, ()))
  | .inr b3 =>
  some (true, (b3.2.1, ())))
  else none))
noncomputable def watershedkit_KeptInts_5_ce : CE CT Try.prog where
  f := 70
  args := [.one (.as 0 0), .one (.sl 0)]
  hs := [.arr 3 0 true]
  res := .val (.one (.bool))
  outs := [.arr 3 0 true]
  m := fun d dh => watershedkit_KeptInts_5 d.1 d.2.1 dh.1
  ok := ce_ok mixedP Try.func70 (by kernel_rfl) (orcOf_ok watershedkit_KeptInts_5_tb) (dr := watershedkit_KeptInts_5_dr) (lps := lpsOf watershedkit_KeptInts_5_lt) (lps_fn (lps_of (n := 1) (by kernel_rfl) fun i hi => match i, hi with | 0, _ => lp_ok (E := watershedkit_KeptInts_5_e1) (by kernel_rfl) watershedkit_KeptInts_5_e1_ok)) (fun d dh => by kernel_rfl)

def watershedkit_KeptConfig_2_dr : Nat → Nat → DrA
  | _, _ => ⟨[], [], [], [], [], false, []⟩
noncomputable def watershedkit_KeptConfig_2_tb : List (CE CT Try.prog) := [watershedkit_SameConfig_5_ce, watershedkit_KeptInts_5_ce]
noncomputable def watershedkit_KeptConfig_2_lt : List (LE CT Try.prog) := []
noncomputable def watershedkit_KeptConfig_2 (x0 : (Nat × Nat × Nat) × (Nat × Nat × Nat) × (Nat × Nat × Nat) × (Nat × Nat × Nat) × Unit) (x1 : DConfig) (h0 : List (Int)) (h1 : List (Int)) (h2 : List (Int)) (h3 : List (Int)) : Option ((Bool) × ((List (Int)) × (List (Int)) × (List (Int)) × (List (Int)) × Unit)) :=
  (watershedkit_SameConfig_5 ((x0.1.1, x0.1.2.1, x0.1.2.2), (x0.2.1.1, x0.2.1.2.1, x0.2.1.2.2), (x0.2.2.1.1, x0.2.2.1.2.1, x0.2.2.1.2.2), (x0.2.2.2.1.1, x0.2.2.2.1.2.1, x0.2.2.2.1.2.2), ()) x1 h0 h1 h2 h3).bind fun r1 =>
  (bif r1.1 then
  (watershedkit_KeptInts_5 (x0.1.1, x0.1.2.1, x0.1.2.2) x1.voters r1.2.1).bind fun r2 =>
  (bif r2.1 then
  (watershedkit_KeptInts_5 (x0.2.1.1, x0.2.1.2.1, x0.2.1.2.2) x1.old r1.2.2.1).bind fun r3 =>
  (bif r3.1 then
  (watershedkit_KeptInts_5 (x0.2.2.1.1, x0.2.2.1.2.1, x0.2.2.1.2.2) x1.learners r1.2.2.2.1).bind fun r4 =>
  (bif r4.1 then
  (watershedkit_KeptInts_5 (x0.2.2.2.1.1, x0.2.2.2.1.2.1, x0.2.2.2.1.2.2) x1.want r1.2.2.2.2.1).bind fun r5 =>
  some (r5.1, (r2.2.1, r3.2.1, r4.2.1, r5.2.1, ()))
  else
  some (false, (r2.2.1, r3.2.1, r4.2.1, r1.2.2.2.2.1, ())))
  else
  some (false, (r2.2.1, r3.2.1, r1.2.2.2.1, r1.2.2.2.2.1, ())))
  else
  some (false, (r2.2.1, r1.2.2.1, r1.2.2.2.1, r1.2.2.2.2.1, ())))
  else
  some (false, (r1.2.1, r1.2.2.1, r1.2.2.2.1, r1.2.2.2.2.1, ())))
noncomputable def watershedkit_KeptConfig_2_ce : CE CT Try.prog where
  f := 63
  args := [.agg [.as 0 0, .as 0 1, .as 0 2, .as 0 3], .cod 15]
  hs := [.arr 3 0 true, .arr 3 0 true, .arr 3 0 true, .arr 3 0 true]
  res := .val (.one (.bool))
  outs := [.arr 3 0 true, .arr 3 0 true, .arr 3 0 true, .arr 3 0 true]
  m := fun d dh => watershedkit_KeptConfig_2 d.1 d.2.1 dh.1 dh.2.1 dh.2.2.1 dh.2.2.2.1
  ok := ce_ok mixedP Try.func63 (by kernel_rfl) (orcOf_ok watershedkit_KeptConfig_2_tb) (dr := watershedkit_KeptConfig_2_dr) (lps := lpsOf watershedkit_KeptConfig_2_lt) (lps_fn (no_loop (by kernel_rfl))) (fun d dh => by kernel_rfl)

def watershedkit_KeptBase_dr : Nat → Nat → DrA
  | _, _ => ⟨[], [], [], [], [], false, []⟩
noncomputable def watershedkit_KeptBase_tb : List (CE CT Try.prog) := [watershedkit_SameBase_3_ce, watershedkit_KeptConfig_2_ce]
noncomputable def watershedkit_KeptBase_lt : List (LE CT Try.prog) := []
noncomputable def watershedkit_KeptBase (x0 : (Int) × (Int) × (Nat × Nat × Nat) × (Nat × Nat × Nat) × (Nat × Nat × Nat) × (Nat × Nat × Nat) × Unit) (x1 : DBase) (h0 : List (Int)) (h1 : List (Int)) (h2 : List (Int)) (h3 : List (Int)) : Option ((Bool) × ((List (Int)) × (List (Int)) × (List (Int)) × (List (Int)) × Unit)) :=
  (watershedkit_SameBase_3 (x0.1, x0.2.1, (x0.2.2.1.1, x0.2.2.1.2.1, x0.2.2.1.2.2), (x0.2.2.2.1.1, x0.2.2.2.1.2.1, x0.2.2.2.1.2.2), (x0.2.2.2.2.1.1, x0.2.2.2.2.1.2.1, x0.2.2.2.2.1.2.2), (x0.2.2.2.2.2.1.1, x0.2.2.2.2.2.1.2.1, x0.2.2.2.2.2.1.2.2), ()) x1 h0 h1 h2 h3).bind fun r1 =>
  (bif r1.1 then
  (watershedkit_KeptConfig_2 ((x0.2.2.1.1, x0.2.2.1.2.1, x0.2.2.1.2.2), (x0.2.2.2.1.1, x0.2.2.2.1.2.1, x0.2.2.2.1.2.2), (x0.2.2.2.2.1.1, x0.2.2.2.2.1.2.1, x0.2.2.2.2.1.2.2), (x0.2.2.2.2.2.1.1, x0.2.2.2.2.2.1.2.1, x0.2.2.2.2.2.1.2.2), ()) x1.config r1.2.1 r1.2.2.1 r1.2.2.2.1 r1.2.2.2.2.1).bind fun r2 =>
  some (r2.1, (r2.2.1, r2.2.2.1, r2.2.2.2.1, r2.2.2.2.2.1, ()))
  else
  some (false, (r1.2.1, r1.2.2.1, r1.2.2.2.1, r1.2.2.2.2.1, ())))
noncomputable def watershedkit_KeptBase_ce : CE CT Try.prog where
  f := 44
  args := [.agg [.int .i64, .int .i64, .as 0 0, .as 0 1, .as 0 2, .as 0 3], .cod 18]
  hs := [.arr 3 0 true, .arr 3 0 true, .arr 3 0 true, .arr 3 0 true]
  res := .val (.one (.bool))
  outs := [.arr 3 0 true, .arr 3 0 true, .arr 3 0 true, .arr 3 0 true]
  m := fun d dh => watershedkit_KeptBase d.1 d.2.1 dh.1 dh.2.1 dh.2.2.1 dh.2.2.2.1
  ok := ce_ok mixedP Try.func44 (by kernel_rfl) (orcOf_ok watershedkit_KeptBase_tb) (dr := watershedkit_KeptBase_dr) (lps := lpsOf watershedkit_KeptBase_lt) (lps_fn (no_loop (by kernel_rfl))) (fun d dh => by kernel_rfl)

def watershedkit_KeptBytes_2_dr : Nat → Nat → DrA
  | 7, _ => ⟨[0, 1, 2, 3, 4, 5, 6, 7, 9, 10, 11, 8, 12, 13, 14, 15, 16, 17, 18, 19, 20, 21, 22, 23, 24, 26, 27, 28, 29, 25, 30, 31, 32, 33, 34], [[], [], [1], [0, 1, 2], [0, 1, 2, 3], [0, 1, 2, 3, 4], [0, 1, 2, 3, 4], [0, 1, 2, 3, 4, 5, 6], [0, 1, 2, 3, 4, 5, 6, 7], [0, 1, 2, 3, 4], [0, 1, 2, 3, 4], [0, 1, 2, 3, 4, 9, 10], [0, 1, 2, 3, 4, 9, 10, 11], [0, 1, 2, 3, 4, 5, 6, 7, 8, 9, 10, 11, 12], [0, 1, 2, 3, 4, 5, 6, 7, 8, 9, 10, 11, 12, 13], [0, 1, 2, 3, 4, 5, 6, 7, 8, 9, 10, 11, 12, 13, 14], [0, 1, 2, 3, 4, 5, 6, 7, 8, 9, 10, 11, 12, 13, 14, 15], [0, 1, 2, 3, 4, 5, 6, 7, 8, 9, 10, 11, 12, 13, 14, 15, 16], [0, 1, 2, 3, 4, 5, 6, 7, 8, 9, 10, 11, 12, 13, 14, 15, 16], [0, 1, 2, 3, 4, 5, 6, 7, 8, 9, 10, 11, 12, 13, 14, 15, 16, 18], [0, 1, 2, 3, 4, 5, 6, 7, 8, 9, 10, 11, 12, 13, 14, 15, 16, 17, 18, 19], [0, 1, 2, 3, 4, 5, 6, 7, 8, 9, 10, 11, 12, 13, 14, 15, 16, 17, 18, 19, 20], [0, 1, 2, 3, 4, 5, 6, 7, 8, 9, 10, 11, 12, 13, 14, 15, 16, 17, 18, 19, 20, 21], [0, 1, 2, 3, 4, 5, 6, 7, 8, 9, 10, 11, 12, 13, 14, 15, 16, 17, 18, 19, 20, 21], [0, 1, 2, 3, 4, 5, 6, 7, 8, 9, 10, 11, 12, 13, 14, 15, 16, 17, 18, 19, 20, 21, 22, 23], [0, 1, 2, 3, 4, 5, 6, 7, 8, 9, 10, 11, 12, 13, 14, 15, 16, 17, 18, 19, 20, 21, 22, 23, 24], [0, 1, 2, 3, 4, 5, 6, 7, 8, 9, 10, 11, 12, 13, 14, 15, 16, 17, 18, 19, 20, 21], [0, 1, 2, 3, 4, 5, 6, 7, 8, 9, 10, 11, 12, 13, 14, 15, 16, 17, 18, 19, 20, 21], [0, 1, 2, 3, 4, 5, 6, 7, 8, 9, 10, 11, 12, 13, 14, 15, 16, 17, 18, 19, 20, 21, 27], [0, 1, 2, 3, 4, 5, 6, 7, 8, 9, 10, 11, 12, 13, 14, 15, 16, 17, 18, 19, 20, 21, 26, 27, 28], [0, 1, 2, 3, 4, 5, 6, 7, 8, 9, 10, 11, 12, 13, 14, 15, 16, 17, 18, 19, 20, 21, 26, 27, 28, 29], [0, 1, 2, 3, 4, 5, 6, 7, 8, 9, 10, 11, 12, 13, 14, 15, 16, 17, 18, 19, 20, 21, 22, 23, 24, 25, 26, 27, 28, 29, 30], [0, 1, 2, 3, 4, 5, 6, 7, 8, 9, 10, 11, 12, 13, 14, 15, 16, 17, 18, 19, 20, 21, 22, 23, 24, 25, 26, 27, 28, 29, 30, 31], [0, 1, 2, 3, 4, 5, 6, 7, 8, 9, 10, 11, 12, 13, 14, 15, 16, 17, 18, 19, 20, 21, 22, 23, 24, 25, 26, 27, 28, 29, 30, 31, 32], [0, 1, 2, 3, 4, 5, 6, 7, 8, 9, 10, 11, 12, 13, 14, 15, 16, 17, 18, 19, 20, 21, 22, 23, 24, 25, 26, 27, 28, 29, 30, 31, 32, 33]], [25], [30], [0], false, []⟩
  | _, _ => ⟨[], [], [], [], [], false, []⟩
noncomputable def watershedkit_KeptBytes_2_tb : List (CE CT Try.prog) := [watershedkit_markByte_ce]
noncomputable def watershedkit_KeptBytes_2_l1 (a : ((List (UInt8)) × (Nat × Nat × Nat) × (Int) × Unit) × ((List (UInt8)) × Unit)) : Option ((((List (UInt8)) × (Nat × Nat × Nat) × (Int) × Unit) × ((List (UInt8)) × Unit)) ⊕ ((((Bool) × Unit) × ((List (UInt8)) × Unit)) ⊕ ((Unit) × ((List (UInt8)) × Unit)))) :=
  (bif (decide ((a.1.2.2.1 : Int) < ((a.1.2.1.2.1 : Nat) : Int))) then
  (bif (decide ((a.1.2.2.1 : Int) < (a.1.1.length : Int))) then
  (if 0 ≤ (a.1.2.2.1 : Int) ∧ (a.1.2.2.1 : Int) < ((a.1.2.1.2.1 : Nat) : Int) then
  (getI a.1.1 a.1.2.2.1).bind fun e1 =>
  (a.2.1[(a.1.2.1.1 + (a.1.2.2.1 : Int).toNat)]?).bind fun e2 =>
  (bif (!(decide (((e2.toNat : Int) : Int) = (e1.toNat : Int)))) then
  some (.inr (.inl ((false, ()), (a.2.1, ()))))
  else
  (bif (decide (((a.1.1.length : Int) : Int) ≤ a.1.2.2.1)) then
  (if 0 ≤ (a.1.2.2.1 : Int) ∧ (a.1.2.2.1 : Int) < ((a.1.2.1.2.1 : Nat) : Int) then
  (a.2.1[(a.1.2.1.1 + (a.1.2.2.1 : Int).toNat)]?).bind fun e3 =>
  (watershedkit_markByte 1 (IntKind.i64.wrap (a.1.2.2.1 - (a.1.1.length : Int)))).bind fun r4 =>
  (bif (!(decide (((e3.toNat : Int) : Int) = r4.1))) then
  some (.inr (.inl ((false, ()), (a.2.1, ()))))
  else
  some (.inl ((a.1.1, (a.1.2.1.1, a.1.2.1.2.1, a.1.2.1.2.2), (IntKind.i64.wrap (a.1.2.2.1 + 1)), ()), (a.2.1, ()))))
  else none)
  else
  some (.inl ((a.1.1, (a.1.2.1.1, a.1.2.1.2.1, a.1.2.1.2.2), (IntKind.i64.wrap (a.1.2.2.1 + 1)), ()), (a.2.1, ())))))
  else none)
  else
  (bif (decide (((a.1.1.length : Int) : Int) ≤ a.1.2.2.1)) then
  (if 0 ≤ (a.1.2.2.1 : Int) ∧ (a.1.2.2.1 : Int) < ((a.1.2.1.2.1 : Nat) : Int) then
  (a.2.1[(a.1.2.1.1 + (a.1.2.2.1 : Int).toNat)]?).bind fun e5 =>
  (watershedkit_markByte 1 (IntKind.i64.wrap (a.1.2.2.1 - (a.1.1.length : Int)))).bind fun r6 =>
  (bif (!(decide (((e5.toNat : Int) : Int) = r6.1))) then
  some (.inr (.inl ((false, ()), (a.2.1, ()))))
  else
  some (.inl ((a.1.1, (a.1.2.1.1, a.1.2.1.2.1, a.1.2.1.2.2), (IntKind.i64.wrap (a.1.2.2.1 + 1)), ()), (a.2.1, ()))))
  else none)
  else
  some (.inl ((a.1.1, (a.1.2.1.1, a.1.2.1.2.1, a.1.2.1.2.2), (IntKind.i64.wrap (a.1.2.2.1 + 1)), ()), (a.2.1, ())))))
  else
  some (.inr (.inr ((), (a.2.1, ())))))
noncomputable def watershedkit_KeptBytes_2_e1 : LE CT Try.prog := ⟨5, [1, 5, 6], [.one (.sl 1), .one (.as 1 0), .one (.int .i64)], [.arr 5 1 true], [⟨.ret, [4], [.one (.bool)], [.arr 5 1 true]⟩, ⟨.exit 0, [], [], [.arr 5 1 true]⟩], watershedkit_KeptBytes_2_l1⟩
noncomputable def watershedkit_KeptBytes_2_lt : List (LE CT Try.prog) := [watershedkit_KeptBytes_2_e1]
theorem watershedkit_KeptBytes_2_e1_ok : LeOk watershedkit_KeptBytes_2_e1 (nthL (bodyOf Try.f45) 0) := fun A env h k z hk => le_ok (E := watershedkit_KeptBytes_2_e1) (orcOf_ok watershedkit_KeptBytes_2_tb) (dr := watershedkit_KeptBytes_2_dr) (lps := lpsOf watershedkit_KeptBytes_2_lt) (no_loop (by kernel_rfl)) (fun a => by kernel_rfl) env h k z hk
noncomputable def watershedkit_KeptBytes_2 (x0 : Nat × Nat × Nat) (x1 : List (UInt8)) (h0 : List (UInt8)) : Option ((Bool) × ((List (UInt8)) × Unit)) :=
  (bif (decide ((((x0.2.1 : Nat) : Int) : Int) ≠ (x1.length : Int))) then
  some (false, (h0, ()))
  else
  (if 0 ≤ ((0 : Int) : Int) ∧ ((0 : Int) : Int) ≤ ((IntKind.i64.wrap ((x1.length : Int) + 12)) : Int) ∧ ((IntKind.i64.wrap ((x1.length : Int) + 12)) : Int) ≤ ((x0.2.2 : Nat) : Int) ∧ ((IntKind.i64.wrap ((x1.length : Int) + 12)) : Int) ≤ 140737488355328 then
  (loopM watershedkit_KeptBytes_2_l1 ((x1, ((x0.1 + (0 : Int).toNat), (((IntKind.i64.wrap ((x1.length : Int) + 12)) : Int).toNat - (0 : Int).toNat), (x0.2.2 - (0 : Int).toNat)), 0, ()), (h0, ()))).bind fun b1 =>
  (match b1 with
  | .inl b2 =>
  some (b2.1.1, (b2.2.1, ()))
  | .inr b3 =>
  some (true, (b3.2.1, ())))
  else none))
noncomputable def watershedkit_KeptBytes_2_ce : CE CT Try.prog where
  f := 45
  args := [.one (.as 1 0), .one (.sl 1)]
  hs := [.arr 5 1 true]
  res := .val (.one (.bool))
  outs := [.arr 5 1 true]
  m := fun d dh => watershedkit_KeptBytes_2 d.1 d.2.1 dh.1
  ok := ce_ok mixedP Try.func45 (by kernel_rfl) (orcOf_ok watershedkit_KeptBytes_2_tb) (dr := watershedkit_KeptBytes_2_dr) (lps := lpsOf watershedkit_KeptBytes_2_lt) (lps_fn (lps_of (n := 1) (by kernel_rfl) fun i hi => match i, hi with | 0, _ => lp_ok (E := watershedkit_KeptBytes_2_e1) (by kernel_rfl) watershedkit_KeptBytes_2_e1_ok)) (fun d dh => by kernel_rfl)

def watershedkit_KeptLetter_dr : Nat → Nat → DrA
  | _, _ => ⟨[], [], [], [], [], false, []⟩
noncomputable def watershedkit_KeptLetter_tb : List (CE CT Try.prog) := [watershedkit_SameLetter_2_ce, watershedkit_KeptEntries_ce, watershedkit_KeptBase_ce, watershedkit_KeptBytes_2_ce]
noncomputable def watershedkit_KeptLetter_lt : List (LE CT Try.prog) := []
noncomputable def watershedkit_KeptLetter (x0 : (Int) × (Int) × (Int) × (Int) × (Int) × (Int) × (Int) × (Int) × (Bool) × (Nat × Nat × Nat × Unit) × (Int) × (Int) × (Nat × Nat × Nat) × (Nat × Nat × Nat) × (Nat × Nat × Nat) × (Nat × Nat × Nat) × (Int) × (Int) × (Int) × (Nat × Nat × Nat) × Unit) (x1 : DLetter) (h0 : List (DEntryX)) (h1 : List (Int)) (h2 : List (Int)) (h3 : List (Int)) (h4 : List (Int)) (h5 : List (UInt8)) : Option ((Bool) × ((List (DEntryX)) × (List (Int)) × (List (Int)) × (List (Int)) × (List (Int)) × (List (UInt8)) × Unit)) :=
  (watershedkit_SameLetter_2 (x0.1, x0.2.1, x0.2.2.1, x0.2.2.2.1, x0.2.2.2.2.1, x0.2.2.2.2.2.1, x0.2.2.2.2.2.2.1, x0.2.2.2.2.2.2.2.1, x0.2.2.2.2.2.2.2.2.1, (x0.2.2.2.2.2.2.2.2.2.1.1, x0.2.2.2.2.2.2.2.2.2.1.2.1, x0.2.2.2.2.2.2.2.2.2.1.2.2.1, ()), x0.2.2.2.2.2.2.2.2.2.2.1, x0.2.2.2.2.2.2.2.2.2.2.2.1, (x0.2.2.2.2.2.2.2.2.2.2.2.2.1.1, x0.2.2.2.2.2.2.2.2.2.2.2.2.1.2.1, x0.2.2.2.2.2.2.2.2.2.2.2.2.1.2.2), (x0.2.2.2.2.2.2.2.2.2.2.2.2.2.1.1, x0.2.2.2.2.2.2.2.2.2.2.2.2.2.1.2.1, x0.2.2.2.2.2.2.2.2.2.2.2.2.2.1.2.2), (x0.2.2.2.2.2.2.2.2.2.2.2.2.2.2.1.1, x0.2.2.2.2.2.2.2.2.2.2.2.2.2.2.1.2.1, x0.2.2.2.2.2.2.2.2.2.2.2.2.2.2.1.2.2), (x0.2.2.2.2.2.2.2.2.2.2.2.2.2.2.2.1.1, x0.2.2.2.2.2.2.2.2.2.2.2.2.2.2.2.1.2.1, x0.2.2.2.2.2.2.2.2.2.2.2.2.2.2.2.1.2.2), x0.2.2.2.2.2.2.2.2.2.2.2.2.2.2.2.2.1, x0.2.2.2.2.2.2.2.2.2.2.2.2.2.2.2.2.2.1, x0.2.2.2.2.2.2.2.2.2.2.2.2.2.2.2.2.2.2.1, (x0.2.2.2.2.2.2.2.2.2.2.2.2.2.2.2.2.2.2.2.1.1, x0.2.2.2.2.2.2.2.2.2.2.2.2.2.2.2.2.2.2.2.1.2.1, x0.2.2.2.2.2.2.2.2.2.2.2.2.2.2.2.2.2.2.2.1.2.2), ()) x1 h0 h1 h2 h3 h4 h5).bind fun r1 =>
  (bif r1.1 then
  (watershedkit_KeptEntries (x0.2.2.2.2.2.2.2.2.2.1.1, x0.2.2.2.2.2.2.2.2.2.1.2.1, x0.2.2.2.2.2.2.2.2.2.1.2.2.1, ()) x1.entries r1.2.1).bind fun r2 =>
  (bif r2.1 then
  (watershedkit_KeptBase (x0.2.2.2.2.2.2.2.2.2.2.1, x0.2.2.2.2.2.2.2.2.2.2.2.1, (x0.2.2.2.2.2.2.2.2.2.2.2.2.1.1, x0.2.2.2.2.2.2.2.2.2.2.2.2.1.2.1, x0.2.2.2.2.2.2.2.2.2.2.2.2.1.2.2), (x0.2.2.2.2.2.2.2.2.2.2.2.2.2.1.1, x0.2.2.2.2.2.2.2.2.2.2.2.2.2.1.2.1, x0.2.2.2.2.2.2.2.2.2.2.2.2.2.1.2.2), (x0.2.2.2.2.2.2.2.2.2.2.2.2.2.2.1.1, x0.2.2.2.2.2.2.2.2.2.2.2.2.2.2.1.2.1, x0.2.2.2.2.2.2.2.2.2.2.2.2.2.2.1.2.2), (x0.2.2.2.2.2.2.2.2.2.2.2.2.2.2.2.1.1, x0.2.2.2.2.2.2.2.2.2.2.2.2.2.2.2.1.2.1, x0.2.2.2.2.2.2.2.2.2.2.2.2.2.2.2.1.2.2), ()) x1.base r1.2.2.1 r1.2.2.2.1 r1.2.2.2.2.1 r1.2.2.2.2.2.1).bind fun r3 =>
  (bif r3.1 then
  (watershedkit_KeptBytes_2 (x0.2.2.2.2.2.2.2.2.2.2.2.2.2.2.2.2.2.2.2.1.1, x0.2.2.2.2.2.2.2.2.2.2.2.2.2.2.2.2.2.2.2.1.2.1, x0.2.2.2.2.2.2.2.2.2.2.2.2.2.2.2.2.2.2.2.1.2.2) x1.bytes r1.2.2.2.2.2.2.1).bind fun r4 =>
  some (r4.1, (r2.2.1, r3.2.1, r3.2.2.1, r3.2.2.2.1, r3.2.2.2.2.1, r4.2.1, ()))
  else
  some (false, (r2.2.1, r3.2.1, r3.2.2.1, r3.2.2.2.1, r3.2.2.2.2.1, r1.2.2.2.2.2.2.1, ())))
  else
  some (false, (r2.2.1, r1.2.2.1, r1.2.2.2.1, r1.2.2.2.2.1, r1.2.2.2.2.2.1, r1.2.2.2.2.2.2.1, ())))
  else
  some (false, (r1.2.1, r1.2.2.1, r1.2.2.2.1, r1.2.2.2.2.1, r1.2.2.2.2.2.1, r1.2.2.2.2.2.2.1, ())))
noncomputable def watershedkit_KeptLetter_ce : CE CT Try.prog where
  f := 16
  args := [.agg [.int .u8, .int .i64, .int .i64, .int .i64, .int .i64, .int .i64, .int .i64, .int .i64, .bool, .gv 0 28 3, .int .i64, .int .i64, .as 0 1, .as 0 2, .as 0 3, .as 0 4, .int .i64, .int .i64, .int .i64, .as 1 5], .cod 19]
  hs := [.gen 8 true, .arr 3 0 true, .arr 3 0 true, .arr 3 0 true, .arr 3 0 true, .arr 5 1 true]
  res := .val (.one (.bool))
  outs := [.gen 8 true, .arr 3 0 true, .arr 3 0 true, .arr 3 0 true, .arr 3 0 true, .arr 5 1 true]
  m := fun d dh => watershedkit_KeptLetter d.1 d.2.1 dh.1 dh.2.1 dh.2.2.1 dh.2.2.2.1 dh.2.2.2.2.1 dh.2.2.2.2.2.1
  ok := ce_ok mixedP Try.func16 (by kernel_rfl) (orcOf_ok watershedkit_KeptLetter_tb) (dr := watershedkit_KeptLetter_dr) (lps := lpsOf watershedkit_KeptLetter_lt) (lps_fn (no_loop (by kernel_rfl))) (fun d dh => by kernel_rfl)

def watershedref13_New_dr : Nat → Nat → DrA
  | _, _ => ⟨[], [], [], [], [], false, []⟩
noncomputable def watershedref13_New_tb : List (CE CT Try.prog) := []
noncomputable def watershedref13_New_lt : List (LE CT Try.prog) := []
noncomputable def watershedref13_New  : Option ((Unit) × (((Bool) × (Int) × (Int) × (Int) × (Int) × (List (UInt8)) × Unit) × (Unit) × Unit)) :=
  some ((), ((false, 0, 0, 0, 0, [], ()), (), ()))
noncomputable def watershedref13_New_ce : CE CT Try.prog where
  f := 19
  args := []
  hs := []
  res := .val (.one (.ptr 0 0))
  outs := [.obj 73 [.bool, .int .i64, .int .i64, .int .i64, .int .i64, .own 1 1], .row 5 1]
  m := fun d dh => watershedref13_New
  ok := ce_ok mixedP Try.func19 (by kernel_rfl) (orcOf_ok watershedref13_New_tb) (dr := watershedref13_New_dr) (lps := lpsOf watershedref13_New_lt) (lps_fn (no_loop (by kernel_rfl))) (fun d dh => by kernel_rfl)

def watershedref13_Drop_dr : Nat → Nat → DrA
  | _, _ => ⟨[], [], [], [], [], false, []⟩
noncomputable def watershedref13_Drop_tb : List (CE CT Try.prog) := []
noncomputable def watershedref13_Drop_lt : List (LE CT Try.prog) := []
noncomputable def watershedref13_Drop (h0 : (Bool) × (Int) × (Int) × (Int) × (Int) × (List (UInt8)) × Unit) : Option ((Unit) × (((Bool) × (Int) × (Int) × (Int) × (Int) × (List (UInt8)) × Unit) × (Unit) × (Unit) × Unit)) :=
  some ((), ((false, 0, 0, 0, 0, [], ()), (), (), ()))
noncomputable def watershedref13_Drop_ce : CE CT Try.prog where
  f := 21
  args := [.one (.ptr 0 0)]
  hs := [.obj 73 [.bool, .int .i64, .int .i64, .int .i64, .int .i64, .own 1 1], .row 5 1]
  res := .tup []
  outs := [.obj 73 [.bool, .int .i64, .int .i64, .int .i64, .int .i64, .own 1 2], .dead, .row 5 1]
  m := fun d dh => watershedref13_Drop dh.1
  ok := ce_ok mixedP Try.func21 (by kernel_rfl) (orcOf_ok watershedref13_Drop_tb) (dr := watershedref13_Drop_dr) (lps := lpsOf watershedref13_Drop_lt) (lps_fn (no_loop (by kernel_rfl))) (fun d dh => by kernel_rfl)

def ferry_right_2_dr : Nat → Nat → DrA
  | _, _ => ⟨[], [], [], [], [], false, []⟩
noncomputable def ferry_right_2_tb : List (CE CT Try.prog) := []
noncomputable def ferry_right_2_lt : List (LE CT Try.prog) := []
noncomputable def ferry_right_2 (x0 : (Int) × (Int) × (Int) × (Int) × (Int) × (Int) × (Int) × (Int) × (Bool) × (Nat × Nat × Nat × Unit) × (Int) × (Int) × (Nat × Nat × Nat) × (Nat × Nat × Nat) × (Nat × Nat × Nat) × (Nat × Nat × Nat) × (Int) × (Int) × (Int) × (Nat × Nat × Nat) × Unit) (h0 : List (DEntryX)) (h1 : List (Int)) (h2 : List (Int)) (h3 : List (Int)) (h4 : List (Int)) (h5 : List (UInt8)) : Option ((Bool) × ((List (DEntryX)) × (List (Int)) × (List (Int)) × (List (Int)) × (List (Int)) × (List (UInt8)) × Unit)) :=
  (bif (decide ((x0.1 : Int) = 5)) then
  (bif (decide ((0 : Int) ≤ x0.2.2.2.2.2.2.2.2.2.2.2.2.2.2.2.2.1)) then
  (bif (decide ((x0.2.2.2.2.2.2.2.2.2.2.2.2.2.2.2.2.1 : Int) ≤ 131072)) then
  (bif (decide ((0 : Int) ≤ x0.2.2.2.2.2.2.2.2.2.2.2.2.2.2.2.2.2.1)) then
  (bif (decide ((x0.2.2.2.2.2.2.2.2.2.2.2.2.2.2.2.2.2.1 : Int) ≤ x0.2.2.2.2.2.2.2.2.2.2.2.2.2.2.2.2.1)) then
  let y1 : Bool := (decide ((((x0.2.2.2.2.2.2.2.2.2.2.2.2.2.2.2.2.2.2.2.1.2.1 : Nat) : Int) : Int) ≤ (IntKind.i64.wrap (x0.2.2.2.2.2.2.2.2.2.2.2.2.2.2.2.2.1 - x0.2.2.2.2.2.2.2.2.2.2.2.2.2.2.2.2.2.1))))
  some (y1, (h0, h1, h2, h3, h4, h5, ()))
  else
  some (false, (h0, h1, h2, h3, h4, h5, ())))
  else
  some (false, (h0, h1, h2, h3, h4, h5, ())))
  else
  some (false, (h0, h1, h2, h3, h4, h5, ())))
  else
  some (false, (h0, h1, h2, h3, h4, h5, ())))
  else
  some (false, (h0, h1, h2, h3, h4, h5, ())))
noncomputable def ferry_right_2_ce : CE CT Try.prog where
  f := 46
  args := [.agg [.int .u8, .int .i64, .int .i64, .int .i64, .int .i64, .int .i64, .int .i64, .int .i64, .bool, .gv 0 28 3, .int .i64, .int .i64, .as 0 1, .as 0 2, .as 0 3, .as 0 4, .int .i64, .int .i64, .int .i64, .as 1 5]]
  hs := [.gen 8 true, .arr 3 0 true, .arr 3 0 true, .arr 3 0 true, .arr 3 0 true, .arr 5 1 true]
  res := .val (.one (.bool))
  outs := [.gen 8 true, .arr 3 0 true, .arr 3 0 true, .arr 3 0 true, .arr 3 0 true, .arr 5 1 true]
  m := fun d dh => ferry_right_2 d.1 dh.1 dh.2.1 dh.2.2.1 dh.2.2.2.1 dh.2.2.2.2.1 dh.2.2.2.2.2.1
  ok := ce_ok mixedP Try.func46 (by kernel_rfl) (orcOf_ok ferry_right_2_tb) (dr := ferry_right_2_dr) (lps := lpsOf ferry_right_2_lt) (lps_fn (no_loop (by kernel_rfl))) (fun d dh => by kernel_rfl)

def ferry_of_2_dr : Nat → Nat → DrA
  | _, _ => ⟨[], [], [], [], [], false, []⟩
noncomputable def ferry_of_2_tb : List (CE CT Try.prog) := []
noncomputable def ferry_of_2_lt : List (LE CT Try.prog) := []
noncomputable def ferry_of_2 (x0 : (Int) × (Int) × (Int) × (Int) × (Int) × (Int) × (Int) × (Int) × (Bool) × (Nat × Nat × Nat × Unit) × (Int) × (Int) × (Nat × Nat × Nat) × (Nat × Nat × Nat) × (Nat × Nat × Nat) × (Nat × Nat × Nat) × (Int) × (Int) × (Int) × (Nat × Nat × Nat) × Unit) (h0 : List (DEntryX)) (h1 : List (Int)) (h2 : List (Int)) (h3 : List (Int)) (h4 : List (Int)) (h5 : List (UInt8)) : Option ((DCrossing) × ((List (DEntryX)) × (List (Int)) × (List (Int)) × (List (Int)) × (List (Int)) × (List (UInt8)) × Unit)) :=
  some ((⟨x0.2.2.2.2.1, x0.2.2.2.2.2.2.2.2.2.2.1, x0.2.2.2.2.2.2.2.2.2.2.2.1, x0.2.2.2.2.2.2.2.2.2.2.2.2.2.2.2.2.1⟩ : DCrossing), (h0, h1, h2, h3, h4, h5, ()))
noncomputable def ferry_of_2_ce : CE CT Try.prog where
  f := 47
  args := [.agg [.int .u8, .int .i64, .int .i64, .int .i64, .int .i64, .int .i64, .int .i64, .int .i64, .bool, .gv 0 28 3, .int .i64, .int .i64, .as 0 1, .as 0 2, .as 0 3, .as 0 4, .int .i64, .int .i64, .int .i64, .as 1 5]]
  hs := [.gen 8 true, .arr 3 0 true, .arr 3 0 true, .arr 3 0 true, .arr 3 0 true, .arr 5 1 true]
  res := .val (.cod 21)
  outs := [.gen 8 true, .arr 3 0 true, .arr 3 0 true, .arr 3 0 true, .arr 3 0 true, .arr 5 1 true]
  m := fun d dh => ferry_of_2 d.1 dh.1 dh.2.1 dh.2.2.1 dh.2.2.2.1 dh.2.2.2.2.1 dh.2.2.2.2.2.1
  ok := ce_ok mixedP Try.func47 (by kernel_rfl) (orcOf_ok ferry_of_2_tb) (dr := ferry_of_2_dr) (lps := lpsOf ferry_of_2_lt) (lps_fn (no_loop (by kernel_rfl))) (fun d dh => by kernel_rfl)

def ferry_lay_2_dr : Nat → Nat → DrA
  | _, _ => ⟨[], [], [], [], [], false, []⟩
noncomputable def ferry_lay_2_tb : List (CE CT Try.prog) := []
noncomputable def ferry_lay_2_lt : List (LE CT Try.prog) := []
noncomputable def ferry_lay_2 (x1 : Nat × Nat × Nat) (h0 : (Int) × (Int) × (Int) × (Int) × (Bool) × (Bool) × (Nat) × Unit) (h1 : List (UInt8)) (h2 : List (UInt8)) : Option ((Unit) × (((Int) × (Int) × (Int) × (Int) × (Bool) × (Bool) × (Nat) × Unit) × (List (UInt8)) × (Unit) × (List (UInt8)) × Unit)) :=
  (if x1.1 + x1.2.1 ≤ h1.length then
  (if (h0.2.2.2.2.2.2.1 + ((h1.drop x1.1).take x1.2.1).length) ≤ 140737488355328 ∧ (h0.2.2.2.2.2.2.1 + ((h1.drop x1.1).take x1.2.1).length) * 1 ≤ 140737488355328 ∧ 0 + h0.2.2.2.2.2.2.1 ≤ h2.length then
  some ((), ((h0.1, h0.2.1, h0.2.2.1, h0.2.2.2.1, h0.2.2.2.2.1, h0.2.2.2.2.2.1, (h0.2.2.2.2.2.2.1 + ((h1.drop x1.1).take x1.2.1).length), ()), h1, (), (h2.take h0.2.2.2.2.2.2.1 ++ ((h1.drop x1.1).take x1.2.1)), ()))
  else none)
  else none)
noncomputable def ferry_lay_2_ce : CE CT Try.prog where
  f := 48
  args := [.one (.ptr 0 0), .one (.as 1 1)]
  hs := [.obj 56 [.int .i64, .int .i64, .int .i64, .int .i64, .bool, .bool, .asz 1 2], .arr 5 1 true, .arr 5 1 false]
  res := .tup []
  outs := [.obj 56 [.int .i64, .int .i64, .int .i64, .int .i64, .bool, .bool, .asz 1 3], .arr 5 1 true, .dead, .arr 5 1 false]
  m := fun d dh => ferry_lay_2 d.2.1 dh.1 dh.2.1 dh.2.2.1
  ok := ce_ok mixedP Try.func48 (by kernel_rfl) (orcOf_ok ferry_lay_2_tb) (dr := ferry_lay_2_dr) (lps := lpsOf ferry_lay_2_lt) (lps_fn (no_loop (by kernel_rfl))) (fun d dh => by kernel_rfl)

def ferry_Take_2_dr : Nat → Nat → DrA
  | 2, _ => ⟨[1, 2, 0, 3], [[], [], [1], [0, 1, 2]], [], [], [], false, []⟩
  | 3, _ => ⟨[0, 1, 2, 3, 4, 5, 6, 7, 8, 9, 10, 11, 12, 13], [[], [0], [0, 1], [0, 1, 2], [0, 1, 2, 3], [0, 1, 2, 3, 4], [0, 1, 2, 3, 4, 5], [0, 1, 2, 3, 4, 5, 6], [0, 1, 2, 3, 4, 5, 6, 7], [0, 1, 2, 3, 4, 5, 6, 7, 8], [0, 1, 2, 3, 4, 5], [0, 1, 2, 3, 4, 5, 10], [0, 1, 2, 3, 4, 5, 6, 7, 8, 9, 10, 11], [0, 1, 2, 3, 4, 5, 6, 7, 8, 9, 10, 11, 12]], [9], [11], [0], false, []⟩
  | 5, _ => ⟨[1, 2, 0, 3], [[], [], [1], [0, 1, 2]], [], [], [], false, []⟩
  | 8, _ => ⟨[0, 2, 3, 4, 1, 5, 6, 7], [[], [0], [], [2], [2, 3], [2, 3, 4], [2, 3, 4, 5], [0, 1, 2, 3, 4, 5, 6]], [], [], [], false, []⟩
  | 9, _ => ⟨[0, 1, 3, 4, 5, 8, 11, 2, 6, 7, 9, 10, 12, 13, 14, 15, 16], [[], [], [1], [], [3], [3, 4], [3, 4, 5], [3, 4, 5, 6], [], [8], [3, 4, 5, 6, 7, 8, 9], [], [11], [11, 12], [3, 4, 5, 6, 7, 8, 9, 10, 11, 12, 13], [1, 2, 3, 4, 5, 6, 7, 8, 9, 10, 11, 12, 13, 14], [0, 1, 2, 3, 4, 5, 6, 7, 8, 9, 10, 11, 12, 13, 14, 15]], [], [], [], false, []⟩
  | 12, _ => ⟨[0, 2, 3, 1, 4], [[], [], [0], [0, 2], [0, 1, 2, 3]], [], [], [], false, []⟩
  | 13, _ => ⟨[0, 3, 4, 5, 1, 6, 2, 7, 8], [[], [0], [0, 1], [], [3], [3, 4], [3, 4, 5], [0, 1, 2, 3, 4, 5, 6], [0, 1, 2, 3, 4, 5, 6, 7]], [6], [2], [0], false, []⟩
  | 15, _ => ⟨[0, 2, 3, 1, 4], [[], [], [0], [0, 2], [0, 1, 2, 3]], [], [], [], false, []⟩
  | _, _ => ⟨[], [], [], [], [], false, []⟩
noncomputable def ferry_Take_2_tb : List (CE CT Try.prog) := [ferry_right_2_ce, ferry_Drop_ce, ferry_of_2_ce, ferry_lay_2_ce, ferry_own_3_ce]
noncomputable def ferry_Take_2_lt : List (LE CT Try.prog) := []
noncomputable def ferry_Take_2 (x1 : (Int) × (Int) × (Int) × (Int) × (Int) × (Int) × (Int) × (Int) × (Bool) × (Nat × Nat × Nat × Unit) × (Int) × (Int) × (Nat × Nat × Nat) × (Nat × Nat × Nat) × (Nat × Nat × Nat) × (Nat × Nat × Nat) × (Int) × (Int) × (Int) × (Nat × Nat × Nat) × Unit) (h0 : (Int) × (Int) × (Int) × (Int) × (Bool) × (Bool) × (Nat) × Unit) (h1 : List (DEntryX)) (h2 : List (Int)) (h3 : List (Int)) (h4 : List (Int)) (h5 : List (Int)) (h6 : List (UInt8)) (h7 : List (UInt8)) : Option (((Int) × (Bool) × ((Int) × (Int) × (Nat) × (Nat) × (Nat) × (Nat) × (Nat) × Unit) × Unit) × (((Int) × (Int) × (Int) × (Int) × (Bool) × (Bool) × (Nat) × Unit) × (List (DEntryX)) × (List (Int)) × (List (Int)) × (List (Int)) × (List (Int)) × (List (UInt8)) × (Unit) × (List (Int)) × (List (Int)) × (List (Int)) × (List (Int)) × (List (UInt8)) × (List (UInt8)) × Unit)) :=
  (bif (!h0.2.2.2.2.1) then
  some ((0, false, (0, 0, 0, 0, 0, 0, 0, ()), ()), ((h0.1, h0.2.1, h0.2.2.1, h0.2.2.2.1, h0.2.2.2.2.1, h0.2.2.2.2.2.1, h0.2.2.2.2.2.2.1, ()), h1, h2, h3, h4, h5, h6, (), [], [], [], [], [], h7, ()))
  else
  (ferry_right_2 (x1.1, x1.2.1, x1.2.2.1, x1.2.2.2.1, x1.2.2.2.2.1, x1.2.2.2.2.2.1, x1.2.2.2.2.2.2.1, x1.2.2.2.2.2.2.2.1, x1.2.2.2.2.2.2.2.2.1, (x1.2.2.2.2.2.2.2.2.2.1.1, x1.2.2.2.2.2.2.2.2.2.1.2.1, x1.2.2.2.2.2.2.2.2.2.1.2.2.1, ()), x1.2.2.2.2.2.2.2.2.2.2.1, x1.2.2.2.2.2.2.2.2.2.2.2.1, (x1.2.2.2.2.2.2.2.2.2.2.2.2.1.1, x1.2.2.2.2.2.2.2.2.2.2.2.2.1.2.1, x1.2.2.2.2.2.2.2.2.2.2.2.2.1.2.2), (x1.2.2.2.2.2.2.2.2.2.2.2.2.2.1.1, x1.2.2.2.2.2.2.2.2.2.2.2.2.2.1.2.1, x1.2.2.2.2.2.2.2.2.2.2.2.2.2.1.2.2), (x1.2.2.2.2.2.2.2.2.2.2.2.2.2.2.1.1, x1.2.2.2.2.2.2.2.2.2.2.2.2.2.2.1.2.1, x1.2.2.2.2.2.2.2.2.2.2.2.2.2.2.1.2.2), (x1.2.2.2.2.2.2.2.2.2.2.2.2.2.2.2.1.1, x1.2.2.2.2.2.2.2.2.2.2.2.2.2.2.2.1.2.1, x1.2.2.2.2.2.2.2.2.2.2.2.2.2.2.2.1.2.2), x1.2.2.2.2.2.2.2.2.2.2.2.2.2.2.2.2.1, x1.2.2.2.2.2.2.2.2.2.2.2.2.2.2.2.2.2.1, x1.2.2.2.2.2.2.2.2.2.2.2.2.2.2.2.2.2.2.1, (x1.2.2.2.2.2.2.2.2.2.2.2.2.2.2.2.2.2.2.2.1.1, x1.2.2.2.2.2.2.2.2.2.2.2.2.2.2.2.2.2.2.2.1.2.1, x1.2.2.2.2.2.2.2.2.2.2.2.2.2.2.2.2.2.2.2.1.2.2), ()) h1 h2 h3 h4 h5 h6).bind fun r1 =>
  (bif (!r1.1) then
  some ((0, false, (0, 0, 0, 0, 0, 0, 0, ()), ()), ((h0.1, h0.2.1, h0.2.2.1, h0.2.2.2.1, h0.2.2.2.2.1, h0.2.2.2.2.2.1, h0.2.2.2.2.2.2.1, ()), r1.2.1, r1.2.2.1, r1.2.2.2.1, r1.2.2.2.2.1, r1.2.2.2.2.2.1, r1.2.2.2.2.2.2.1, (), [], [], [], [], [], h7, ()))
  else
  (bif (!h0.2.2.2.2.2.1) then
  (bif (decide ((x1.2.2.2.2.2.2.2.2.2.2.2.2.2.2.2.2.2.1 : Int) ≠ 0)) then
  some ((0, false, (0, 0, 0, 0, 0, 0, 0, ()), ()), ((h0.1, h0.2.1, h0.2.2.1, h0.2.2.2.1, h0.2.2.2.2.1, h0.2.2.2.2.2.1, h0.2.2.2.2.2.2.1, ()), r1.2.1, r1.2.2.1, r1.2.2.2.1, r1.2.2.2.2.1, r1.2.2.2.2.2.1, r1.2.2.2.2.2.2.1, (), [], [], [], [], [], h7, ()))
  else
  (ferry_Drop (h0.1, h0.2.1, h0.2.2.1, h0.2.2.2.1, h0.2.2.2.2.1, h0.2.2.2.2.2.1, (), ())).bind fun r2 =>
  (ferry_of_2 (x1.1, x1.2.1, x1.2.2.1, x1.2.2.2.1, x1.2.2.2.2.1, x1.2.2.2.2.2.1, x1.2.2.2.2.2.2.1, x1.2.2.2.2.2.2.2.1, x1.2.2.2.2.2.2.2.2.1, (x1.2.2.2.2.2.2.2.2.2.1.1, x1.2.2.2.2.2.2.2.2.2.1.2.1, x1.2.2.2.2.2.2.2.2.2.1.2.2.1, ()), x1.2.2.2.2.2.2.2.2.2.2.1, x1.2.2.2.2.2.2.2.2.2.2.2.1, (x1.2.2.2.2.2.2.2.2.2.2.2.2.1.1, x1.2.2.2.2.2.2.2.2.2.2.2.2.1.2.1, x1.2.2.2.2.2.2.2.2.2.2.2.2.1.2.2), (x1.2.2.2.2.2.2.2.2.2.2.2.2.2.1.1, x1.2.2.2.2.2.2.2.2.2.2.2.2.2.1.2.1, x1.2.2.2.2.2.2.2.2.2.2.2.2.2.1.2.2), (x1.2.2.2.2.2.2.2.2.2.2.2.2.2.2.1.1, x1.2.2.2.2.2.2.2.2.2.2.2.2.2.2.1.2.1, x1.2.2.2.2.2.2.2.2.2.2.2.2.2.2.1.2.2), (x1.2.2.2.2.2.2.2.2.2.2.2.2.2.2.2.1.1, x1.2.2.2.2.2.2.2.2.2.2.2.2.2.2.2.1.2.1, x1.2.2.2.2.2.2.2.2.2.2.2.2.2.2.2.1.2.2), x1.2.2.2.2.2.2.2.2.2.2.2.2.2.2.2.2.1, x1.2.2.2.2.2.2.2.2.2.2.2.2.2.2.2.2.2.1, x1.2.2.2.2.2.2.2.2.2.2.2.2.2.2.2.2.2.2.1, (x1.2.2.2.2.2.2.2.2.2.2.2.2.2.2.2.2.2.2.2.1.1, x1.2.2.2.2.2.2.2.2.2.2.2.2.2.2.2.2.2.2.2.1.2.1, x1.2.2.2.2.2.2.2.2.2.2.2.2.2.2.2.2.2.2.2.1.2.2), ()) r1.2.1 r1.2.2.1 r1.2.2.2.1 r1.2.2.2.2.1 r1.2.2.2.2.2.1 r1.2.2.2.2.2.2.1).bind fun r3 =>
  (bif (decide ((x1.2.2.2.2.2.2.2.2.2.2.2.2.2.2.2.2.2.1 : Int) ≤ ((r2.2.1.2.2.2.2.2.2.1 : Nat) : Int))) then
  let y4 : Int := (if (((x1.2.2.2.2.2.2.2.2.2.2.2.2.2.2.2.2.2.2.2.1.2.1 : Nat) : Int) : Int) < (IntKind.i64.wrap (((r2.2.1.2.2.2.2.2.2.1 : Nat) : Int) - x1.2.2.2.2.2.2.2.2.2.2.2.2.2.2.2.2.2.1)) then ((x1.2.2.2.2.2.2.2.2.2.2.2.2.2.2.2.2.2.2.2.1.2.1 : Nat) : Int) else (IntKind.i64.wrap (((r2.2.1.2.2.2.2.2.2.1 : Nat) : Int) - x1.2.2.2.2.2.2.2.2.2.2.2.2.2.2.2.2.2.1)))
  (if 0 ≤ ((y4 : Int) : Int) ∧ ((y4 : Int) : Int) ≤ ((x1.2.2.2.2.2.2.2.2.2.2.2.2.2.2.2.2.2.2.2.1.2.1 : Nat) : Int) ∧ ((x1.2.2.2.2.2.2.2.2.2.2.2.2.2.2.2.2.2.2.2.1.2.1 : Nat) : Int) ≤ ((x1.2.2.2.2.2.2.2.2.2.2.2.2.2.2.2.2.2.2.2.1.2.2 : Nat) : Int) ∧ ((x1.2.2.2.2.2.2.2.2.2.2.2.2.2.2.2.2.2.2.2.1.2.1 : Nat) : Int) ≤ 140737488355328 then
  (ferry_lay_2 ((x1.2.2.2.2.2.2.2.2.2.2.2.2.2.2.2.2.2.2.2.1.1 + (y4 : Int).toNat), (((x1.2.2.2.2.2.2.2.2.2.2.2.2.2.2.2.2.2.2.2.1.2.1 : Nat) : Int).toNat - (y4 : Int).toNat), (x1.2.2.2.2.2.2.2.2.2.2.2.2.2.2.2.2.2.2.2.1.2.2 - (y4 : Int).toNat)) (r3.1.term_, r3.1.index, r3.1.base, r3.1.size, r2.2.1.2.2.2.2.1, true, r2.2.1.2.2.2.2.2.2.1, ()) r3.2.2.2.2.2.2.1 r2.2.2.1).bind fun r5 =>
  (bif (decide ((((r5.2.1.2.2.2.2.2.2.1 : Nat) : Int) : Int) < r5.2.1.2.2.2.1)) then
  some ((((r5.2.1.2.2.2.2.2.2.1 : Nat) : Int), false, (0, 0, 0, 0, 0, 0, 0, ()), ()), ((r5.2.1.1, r5.2.1.2.1, r5.2.1.2.2.1, r5.2.1.2.2.2.1, r5.2.1.2.2.2.2.1, r5.2.1.2.2.2.2.2.1, r5.2.1.2.2.2.2.2.2.1, ()), r3.2.1, r3.2.2.1, r3.2.2.2.1, r3.2.2.2.2.1, r3.2.2.2.2.2.1, r5.2.2.1, (), [], [], [], [], [], r5.2.2.2.2.1, ()))
  else
  (ferry_own_3 (x1.2.2.2.2.2.2.2.2.2.2.1, x1.2.2.2.2.2.2.2.2.2.2.2.1, (x1.2.2.2.2.2.2.2.2.2.2.2.2.1.1, x1.2.2.2.2.2.2.2.2.2.2.2.2.1.2.1, x1.2.2.2.2.2.2.2.2.2.2.2.2.1.2.2), (x1.2.2.2.2.2.2.2.2.2.2.2.2.2.1.1, x1.2.2.2.2.2.2.2.2.2.2.2.2.2.1.2.1, x1.2.2.2.2.2.2.2.2.2.2.2.2.2.1.2.2), (x1.2.2.2.2.2.2.2.2.2.2.2.2.2.2.1.1, x1.2.2.2.2.2.2.2.2.2.2.2.2.2.2.1.2.1, x1.2.2.2.2.2.2.2.2.2.2.2.2.2.2.1.2.2), (x1.2.2.2.2.2.2.2.2.2.2.2.2.2.2.2.1.1, x1.2.2.2.2.2.2.2.2.2.2.2.2.2.2.2.1.2.1, x1.2.2.2.2.2.2.2.2.2.2.2.2.2.2.2.1.2.2), ()) r3.2.2.1 r3.2.2.2.1 r3.2.2.2.2.1 r3.2.2.2.2.2.1).bind fun r6 =>
  (ferry_Drop (r5.2.1.1, r5.2.1.2.1, r5.2.1.2.2.1, r5.2.1.2.2.2.1, r5.2.1.2.2.2.2.1, r5.2.1.2.2.2.2.2.1, (), ())).bind fun r7 =>
  some ((((r5.2.1.2.2.2.2.2.2.1 : Nat) : Int), true, (r6.1.1, r6.1.2.1, r6.1.2.2.1, r6.1.2.2.2.1, r6.1.2.2.2.2.1, r6.1.2.2.2.2.2.1, r5.2.1.2.2.2.2.2.2.1, ()), ()), ((r7.2.1.1, r7.2.1.2.1, r7.2.1.2.2.1, r7.2.1.2.2.2.1, r7.2.1.2.2.2.2.1, r7.2.1.2.2.2.2.2.1, r7.2.1.2.2.2.2.2.2.1, ()), r3.2.1, r6.2.1, r6.2.2.1, r6.2.2.2.1, r6.2.2.2.2.1, r5.2.2.1, (), r6.2.2.2.2.2.1, r6.2.2.2.2.2.2.1, r6.2.2.2.2.2.2.2.1, r6.2.2.2.2.2.2.2.2.1, r5.2.2.2.2.1, r7.2.2.1, ())))
  else none)
  else
  (bif (decide ((((r2.2.1.2.2.2.2.2.2.1 : Nat) : Int) : Int) < r3.1.size)) then
  some ((((r2.2.1.2.2.2.2.2.2.1 : Nat) : Int), false, (0, 0, 0, 0, 0, 0, 0, ()), ()), ((r3.1.term_, r3.1.index, r3.1.base, r3.1.size, r2.2.1.2.2.2.2.1, true, r2.2.1.2.2.2.2.2.2.1, ()), r3.2.1, r3.2.2.1, r3.2.2.2.1, r3.2.2.2.2.1, r3.2.2.2.2.2.1, r3.2.2.2.2.2.2.1, (), [], [], [], [], [], r2.2.2.1, ()))
  else
  (ferry_own_3 (x1.2.2.2.2.2.2.2.2.2.2.1, x1.2.2.2.2.2.2.2.2.2.2.2.1, (x1.2.2.2.2.2.2.2.2.2.2.2.2.1.1, x1.2.2.2.2.2.2.2.2.2.2.2.2.1.2.1, x1.2.2.2.2.2.2.2.2.2.2.2.2.1.2.2), (x1.2.2.2.2.2.2.2.2.2.2.2.2.2.1.1, x1.2.2.2.2.2.2.2.2.2.2.2.2.2.1.2.1, x1.2.2.2.2.2.2.2.2.2.2.2.2.2.1.2.2), (x1.2.2.2.2.2.2.2.2.2.2.2.2.2.2.1.1, x1.2.2.2.2.2.2.2.2.2.2.2.2.2.2.1.2.1, x1.2.2.2.2.2.2.2.2.2.2.2.2.2.2.1.2.2), (x1.2.2.2.2.2.2.2.2.2.2.2.2.2.2.2.1.1, x1.2.2.2.2.2.2.2.2.2.2.2.2.2.2.2.1.2.1, x1.2.2.2.2.2.2.2.2.2.2.2.2.2.2.2.1.2.2), ()) r3.2.2.1 r3.2.2.2.1 r3.2.2.2.2.1 r3.2.2.2.2.2.1).bind fun r8 =>
  (ferry_Drop (r3.1.term_, r3.1.index, r3.1.base, r3.1.size, r2.2.1.2.2.2.2.1, true, (), ())).bind fun r9 =>
  some ((((r2.2.1.2.2.2.2.2.2.1 : Nat) : Int), true, (r8.1.1, r8.1.2.1, r8.1.2.2.1, r8.1.2.2.2.1, r8.1.2.2.2.2.1, r8.1.2.2.2.2.2.1, r2.2.1.2.2.2.2.2.2.1, ()), ()), ((r9.2.1.1, r9.2.1.2.1, r9.2.1.2.2.1, r9.2.1.2.2.2.1, r9.2.1.2.2.2.2.1, r9.2.1.2.2.2.2.2.1, r9.2.1.2.2.2.2.2.2.1, ()), r3.2.1, r8.2.1, r8.2.2.1, r8.2.2.2.1, r8.2.2.2.2.1, r3.2.2.2.2.2.2.1, (), r8.2.2.2.2.2.1, r8.2.2.2.2.2.2.1, r8.2.2.2.2.2.2.2.1, r8.2.2.2.2.2.2.2.2.1, r2.2.2.1, r9.2.2.1, ())))))
  else
  (ferry_of_2 (x1.1, x1.2.1, x1.2.2.1, x1.2.2.2.1, x1.2.2.2.2.1, x1.2.2.2.2.2.1, x1.2.2.2.2.2.2.1, x1.2.2.2.2.2.2.2.1, x1.2.2.2.2.2.2.2.2.1, (x1.2.2.2.2.2.2.2.2.2.1.1, x1.2.2.2.2.2.2.2.2.2.1.2.1, x1.2.2.2.2.2.2.2.2.2.1.2.2.1, ()), x1.2.2.2.2.2.2.2.2.2.2.1, x1.2.2.2.2.2.2.2.2.2.2.2.1, (x1.2.2.2.2.2.2.2.2.2.2.2.2.1.1, x1.2.2.2.2.2.2.2.2.2.2.2.2.1.2.1, x1.2.2.2.2.2.2.2.2.2.2.2.2.1.2.2), (x1.2.2.2.2.2.2.2.2.2.2.2.2.2.1.1, x1.2.2.2.2.2.2.2.2.2.2.2.2.2.1.2.1, x1.2.2.2.2.2.2.2.2.2.2.2.2.2.1.2.2), (x1.2.2.2.2.2.2.2.2.2.2.2.2.2.2.1.1, x1.2.2.2.2.2.2.2.2.2.2.2.2.2.2.1.2.1, x1.2.2.2.2.2.2.2.2.2.2.2.2.2.2.1.2.2), (x1.2.2.2.2.2.2.2.2.2.2.2.2.2.2.2.1.1, x1.2.2.2.2.2.2.2.2.2.2.2.2.2.2.2.1.2.1, x1.2.2.2.2.2.2.2.2.2.2.2.2.2.2.2.1.2.2), x1.2.2.2.2.2.2.2.2.2.2.2.2.2.2.2.2.1, x1.2.2.2.2.2.2.2.2.2.2.2.2.2.2.2.2.2.1, x1.2.2.2.2.2.2.2.2.2.2.2.2.2.2.2.2.2.2.1, (x1.2.2.2.2.2.2.2.2.2.2.2.2.2.2.2.2.2.2.2.1.1, x1.2.2.2.2.2.2.2.2.2.2.2.2.2.2.2.2.2.2.2.1.2.1, x1.2.2.2.2.2.2.2.2.2.2.2.2.2.2.2.2.2.2.2.1.2.2), ()) r1.2.1 r1.2.2.1 r1.2.2.2.1 r1.2.2.2.2.1 r1.2.2.2.2.2.1 r1.2.2.2.2.2.2.1).bind fun r10 =>
  (bif (!(decide ((h0.1 : Int) = r10.1.term_) && (decide ((h0.2.1 : Int) = r10.1.index) && (decide ((h0.2.2.1 : Int) = r10.1.base) && (decide ((h0.2.2.2.1 : Int) = r10.1.size) && true))))) then
  (bif (decide ((x1.2.2.2.2.2.2.2.2.2.2.2.2.2.2.2.2.2.1 : Int) ≠ 0)) then
  some ((0, false, (0, 0, 0, 0, 0, 0, 0, ()), ()), ((h0.1, h0.2.1, h0.2.2.1, h0.2.2.2.1, h0.2.2.2.2.1, h0.2.2.2.2.2.1, h0.2.2.2.2.2.2.1, ()), r10.2.1, r10.2.2.1, r10.2.2.2.1, r10.2.2.2.2.1, r10.2.2.2.2.2.1, r10.2.2.2.2.2.2.1, (), [], [], [], [], [], h7, ()))
  else
  (ferry_Drop (h0.1, h0.2.1, h0.2.2.1, h0.2.2.2.1, h0.2.2.2.2.1, h0.2.2.2.2.2.1, (), ())).bind fun r11 =>
  (ferry_of_2 (x1.1, x1.2.1, x1.2.2.1, x1.2.2.2.1, x1.2.2.2.2.1, x1.2.2.2.2.2.1, x1.2.2.2.2.2.2.1, x1.2.2.2.2.2.2.2.1, x1.2.2.2.2.2.2.2.2.1, (x1.2.2.2.2.2.2.2.2.2.1.1, x1.2.2.2.2.2.2.2.2.2.1.2.1, x1.2.2.2.2.2.2.2.2.2.1.2.2.1, ()), x1.2.2.2.2.2.2.2.2.2.2.1, x1.2.2.2.2.2.2.2.2.2.2.2.1, (x1.2.2.2.2.2.2.2.2.2.2.2.2.1.1, x1.2.2.2.2.2.2.2.2.2.2.2.2.1.2.1, x1.2.2.2.2.2.2.2.2.2.2.2.2.1.2.2), (x1.2.2.2.2.2.2.2.2.2.2.2.2.2.1.1, x1.2.2.2.2.2.2.2.2.2.2.2.2.2.1.2.1, x1.2.2.2.2.2.2.2.2.2.2.2.2.2.1.2.2), (x1.2.2.2.2.2.2.2.2.2.2.2.2.2.2.1.1, x1.2.2.2.2.2.2.2.2.2.2.2.2.2.2.1.2.1, x1.2.2.2.2.2.2.2.2.2.2.2.2.2.2.1.2.2), (x1.2.2.2.2.2.2.2.2.2.2.2.2.2.2.2.1.1, x1.2.2.2.2.2.2.2.2.2.2.2.2.2.2.2.1.2.1, x1.2.2.2.2.2.2.2.2.2.2.2.2.2.2.2.1.2.2), x1.2.2.2.2.2.2.2.2.2.2.2.2.2.2.2.2.1, x1.2.2.2.2.2.2.2.2.2.2.2.2.2.2.2.2.2.1, x1.2.2.2.2.2.2.2.2.2.2.2.2.2.2.2.2.2.2.1, (x1.2.2.2.2.2.2.2.2.2.2.2.2.2.2.2.2.2.2.2.1.1, x1.2.2.2.2.2.2.2.2.2.2.2.2.2.2.2.2.2.2.2.1.2.1, x1.2.2.2.2.2.2.2.2.2.2.2.2.2.2.2.2.2.2.2.1.2.2), ()) r10.2.1 r10.2.2.1 r10.2.2.2.1 r10.2.2.2.2.1 r10.2.2.2.2.2.1 r10.2.2.2.2.2.2.1).bind fun r12 =>
  (bif (decide ((x1.2.2.2.2.2.2.2.2.2.2.2.2.2.2.2.2.2.1 : Int) ≤ ((r11.2.1.2.2.2.2.2.2.1 : Nat) : Int))) then
  let y13 : Int := (if (((x1.2.2.2.2.2.2.2.2.2.2.2.2.2.2.2.2.2.2.2.1.2.1 : Nat) : Int) : Int) < (IntKind.i64.wrap (((r11.2.1.2.2.2.2.2.2.1 : Nat) : Int) - x1.2.2.2.2.2.2.2.2.2.2.2.2.2.2.2.2.2.1)) then ((x1.2.2.2.2.2.2.2.2.2.2.2.2.2.2.2.2.2.2.2.1.2.1 : Nat) : Int) else (IntKind.i64.wrap (((r11.2.1.2.2.2.2.2.2.1 : Nat) : Int) - x1.2.2.2.2.2.2.2.2.2.2.2.2.2.2.2.2.2.1)))
  (if 0 ≤ ((y13 : Int) : Int) ∧ ((y13 : Int) : Int) ≤ ((x1.2.2.2.2.2.2.2.2.2.2.2.2.2.2.2.2.2.2.2.1.2.1 : Nat) : Int) ∧ ((x1.2.2.2.2.2.2.2.2.2.2.2.2.2.2.2.2.2.2.2.1.2.1 : Nat) : Int) ≤ ((x1.2.2.2.2.2.2.2.2.2.2.2.2.2.2.2.2.2.2.2.1.2.2 : Nat) : Int) ∧ ((x1.2.2.2.2.2.2.2.2.2.2.2.2.2.2.2.2.2.2.2.1.2.1 : Nat) : Int) ≤ 140737488355328 then
  (ferry_lay_2 ((x1.2.2.2.2.2.2.2.2.2.2.2.2.2.2.2.2.2.2.2.1.1 + (y13 : Int).toNat), (((x1.2.2.2.2.2.2.2.2.2.2.2.2.2.2.2.2.2.2.2.1.2.1 : Nat) : Int).toNat - (y13 : Int).toNat), (x1.2.2.2.2.2.2.2.2.2.2.2.2.2.2.2.2.2.2.2.1.2.2 - (y13 : Int).toNat)) (r12.1.term_, r12.1.index, r12.1.base, r12.1.size, r11.2.1.2.2.2.2.1, true, r11.2.1.2.2.2.2.2.2.1, ()) r12.2.2.2.2.2.2.1 r11.2.2.1).bind fun r14 =>
  (bif (decide ((((r14.2.1.2.2.2.2.2.2.1 : Nat) : Int) : Int) < r14.2.1.2.2.2.1)) then
  some ((((r14.2.1.2.2.2.2.2.2.1 : Nat) : Int), false, (0, 0, 0, 0, 0, 0, 0, ()), ()), ((r14.2.1.1, r14.2.1.2.1, r14.2.1.2.2.1, r14.2.1.2.2.2.1, r14.2.1.2.2.2.2.1, r14.2.1.2.2.2.2.2.1, r14.2.1.2.2.2.2.2.2.1, ()), r12.2.1, r12.2.2.1, r12.2.2.2.1, r12.2.2.2.2.1, r12.2.2.2.2.2.1, r14.2.2.1, (), [], [], [], [], [], r14.2.2.2.2.1, ()))
  else
  (ferry_own_3 (x1.2.2.2.2.2.2.2.2.2.2.1, x1.2.2.2.2.2.2.2.2.2.2.2.1, (x1.2.2.2.2.2.2.2.2.2.2.2.2.1.1, x1.2.2.2.2.2.2.2.2.2.2.2.2.1.2.1, x1.2.2.2.2.2.2.2.2.2.2.2.2.1.2.2), (x1.2.2.2.2.2.2.2.2.2.2.2.2.2.1.1, x1.2.2.2.2.2.2.2.2.2.2.2.2.2.1.2.1, x1.2.2.2.2.2.2.2.2.2.2.2.2.2.1.2.2), (x1.2.2.2.2.2.2.2.2.2.2.2.2.2.2.1.1, x1.2.2.2.2.2.2.2.2.2.2.2.2.2.2.1.2.1, x1.2.2.2.2.2.2.2.2.2.2.2.2.2.2.1.2.2), (x1.2.2.2.2.2.2.2.2.2.2.2.2.2.2.2.1.1, x1.2.2.2.2.2.2.2.2.2.2.2.2.2.2.2.1.2.1, x1.2.2.2.2.2.2.2.2.2.2.2.2.2.2.2.1.2.2), ()) r12.2.2.1 r12.2.2.2.1 r12.2.2.2.2.1 r12.2.2.2.2.2.1).bind fun r15 =>
  (ferry_Drop (r14.2.1.1, r14.2.1.2.1, r14.2.1.2.2.1, r14.2.1.2.2.2.1, r14.2.1.2.2.2.2.1, r14.2.1.2.2.2.2.2.1, (), ())).bind fun r16 =>
  some ((((r14.2.1.2.2.2.2.2.2.1 : Nat) : Int), true, (r15.1.1, r15.1.2.1, r15.1.2.2.1, r15.1.2.2.2.1, r15.1.2.2.2.2.1, r15.1.2.2.2.2.2.1, r14.2.1.2.2.2.2.2.2.1, ()), ()), ((r16.2.1.1, r16.2.1.2.1, r16.2.1.2.2.1, r16.2.1.2.2.2.1, r16.2.1.2.2.2.2.1, r16.2.1.2.2.2.2.2.1, r16.2.1.2.2.2.2.2.2.1, ()), r12.2.1, r15.2.1, r15.2.2.1, r15.2.2.2.1, r15.2.2.2.2.1, r14.2.2.1, (), r15.2.2.2.2.2.1, r15.2.2.2.2.2.2.1, r15.2.2.2.2.2.2.2.1, r15.2.2.2.2.2.2.2.2.1, r14.2.2.2.2.1, r16.2.2.1, ())))
  else none)
  else
  (bif (decide ((((r11.2.1.2.2.2.2.2.2.1 : Nat) : Int) : Int) < r12.1.size)) then
  some ((((r11.2.1.2.2.2.2.2.2.1 : Nat) : Int), false, (0, 0, 0, 0, 0, 0, 0, ()), ()), ((r12.1.term_, r12.1.index, r12.1.base, r12.1.size, r11.2.1.2.2.2.2.1, true, r11.2.1.2.2.2.2.2.2.1, ()), r12.2.1, r12.2.2.1, r12.2.2.2.1, r12.2.2.2.2.1, r12.2.2.2.2.2.1, r12.2.2.2.2.2.2.1, (), [], [], [], [], [], r11.2.2.1, ()))
  else
  (ferry_own_3 (x1.2.2.2.2.2.2.2.2.2.2.1, x1.2.2.2.2.2.2.2.2.2.2.2.1, (x1.2.2.2.2.2.2.2.2.2.2.2.2.1.1, x1.2.2.2.2.2.2.2.2.2.2.2.2.1.2.1, x1.2.2.2.2.2.2.2.2.2.2.2.2.1.2.2), (x1.2.2.2.2.2.2.2.2.2.2.2.2.2.1.1, x1.2.2.2.2.2.2.2.2.2.2.2.2.2.1.2.1, x1.2.2.2.2.2.2.2.2.2.2.2.2.2.1.2.2), (x1.2.2.2.2.2.2.2.2.2.2.2.2.2.2.1.1, x1.2.2.2.2.2.2.2.2.2.2.2.2.2.2.1.2.1, x1.2.2.2.2.2.2.2.2.2.2.2.2.2.2.1.2.2), (x1.2.2.2.2.2.2.2.2.2.2.2.2.2.2.2.1.1, x1.2.2.2.2.2.2.2.2.2.2.2.2.2.2.2.1.2.1, x1.2.2.2.2.2.2.2.2.2.2.2.2.2.2.2.1.2.2), ()) r12.2.2.1 r12.2.2.2.1 r12.2.2.2.2.1 r12.2.2.2.2.2.1).bind fun r17 =>
  (ferry_Drop (r12.1.term_, r12.1.index, r12.1.base, r12.1.size, r11.2.1.2.2.2.2.1, true, (), ())).bind fun r18 =>
  some ((((r11.2.1.2.2.2.2.2.2.1 : Nat) : Int), true, (r17.1.1, r17.1.2.1, r17.1.2.2.1, r17.1.2.2.2.1, r17.1.2.2.2.2.1, r17.1.2.2.2.2.2.1, r11.2.1.2.2.2.2.2.2.1, ()), ()), ((r18.2.1.1, r18.2.1.2.1, r18.2.1.2.2.1, r18.2.1.2.2.2.1, r18.2.1.2.2.2.2.1, r18.2.1.2.2.2.2.2.1, r18.2.1.2.2.2.2.2.2.1, ()), r12.2.1, r17.2.1, r17.2.2.1, r17.2.2.2.1, r17.2.2.2.2.1, r12.2.2.2.2.2.2.1, (), r17.2.2.2.2.2.1, r17.2.2.2.2.2.2.1, r17.2.2.2.2.2.2.2.1, r17.2.2.2.2.2.2.2.2.1, r11.2.2.1, r18.2.2.1, ())))))
  else
  (bif (decide ((x1.2.2.2.2.2.2.2.2.2.2.2.2.2.2.2.2.2.1 : Int) ≤ ((h0.2.2.2.2.2.2.1 : Nat) : Int))) then
  let y19 : Int := (if (((x1.2.2.2.2.2.2.2.2.2.2.2.2.2.2.2.2.2.2.2.1.2.1 : Nat) : Int) : Int) < (IntKind.i64.wrap (((h0.2.2.2.2.2.2.1 : Nat) : Int) - x1.2.2.2.2.2.2.2.2.2.2.2.2.2.2.2.2.2.1)) then ((x1.2.2.2.2.2.2.2.2.2.2.2.2.2.2.2.2.2.2.2.1.2.1 : Nat) : Int) else (IntKind.i64.wrap (((h0.2.2.2.2.2.2.1 : Nat) : Int) - x1.2.2.2.2.2.2.2.2.2.2.2.2.2.2.2.2.2.1)))
  (if 0 ≤ ((y19 : Int) : Int) ∧ ((y19 : Int) : Int) ≤ ((x1.2.2.2.2.2.2.2.2.2.2.2.2.2.2.2.2.2.2.2.1.2.1 : Nat) : Int) ∧ ((x1.2.2.2.2.2.2.2.2.2.2.2.2.2.2.2.2.2.2.2.1.2.1 : Nat) : Int) ≤ ((x1.2.2.2.2.2.2.2.2.2.2.2.2.2.2.2.2.2.2.2.1.2.2 : Nat) : Int) ∧ ((x1.2.2.2.2.2.2.2.2.2.2.2.2.2.2.2.2.2.2.2.1.2.1 : Nat) : Int) ≤ 140737488355328 then
  (ferry_lay_2 ((x1.2.2.2.2.2.2.2.2.2.2.2.2.2.2.2.2.2.2.2.1.1 + (y19 : Int).toNat), (((x1.2.2.2.2.2.2.2.2.2.2.2.2.2.2.2.2.2.2.2.1.2.1 : Nat) : Int).toNat - (y19 : Int).toNat), (x1.2.2.2.2.2.2.2.2.2.2.2.2.2.2.2.2.2.2.2.1.2.2 - (y19 : Int).toNat)) (h0.1, h0.2.1, h0.2.2.1, h0.2.2.2.1, h0.2.2.2.2.1, h0.2.2.2.2.2.1, h0.2.2.2.2.2.2.1, ()) r10.2.2.2.2.2.2.1 h7).bind fun r20 =>
  (bif (decide ((((r20.2.1.2.2.2.2.2.2.1 : Nat) : Int) : Int) < r20.2.1.2.2.2.1)) then
  some ((((r20.2.1.2.2.2.2.2.2.1 : Nat) : Int), false, (0, 0, 0, 0, 0, 0, 0, ()), ()), ((r20.2.1.1, r20.2.1.2.1, r20.2.1.2.2.1, r20.2.1.2.2.2.1, r20.2.1.2.2.2.2.1, r20.2.1.2.2.2.2.2.1, r20.2.1.2.2.2.2.2.2.1, ()), r10.2.1, r10.2.2.1, r10.2.2.2.1, r10.2.2.2.2.1, r10.2.2.2.2.2.1, r20.2.2.1, (), [], [], [], [], [], r20.2.2.2.2.1, ()))
  else
  (ferry_own_3 (x1.2.2.2.2.2.2.2.2.2.2.1, x1.2.2.2.2.2.2.2.2.2.2.2.1, (x1.2.2.2.2.2.2.2.2.2.2.2.2.1.1, x1.2.2.2.2.2.2.2.2.2.2.2.2.1.2.1, x1.2.2.2.2.2.2.2.2.2.2.2.2.1.2.2), (x1.2.2.2.2.2.2.2.2.2.2.2.2.2.1.1, x1.2.2.2.2.2.2.2.2.2.2.2.2.2.1.2.1, x1.2.2.2.2.2.2.2.2.2.2.2.2.2.1.2.2), (x1.2.2.2.2.2.2.2.2.2.2.2.2.2.2.1.1, x1.2.2.2.2.2.2.2.2.2.2.2.2.2.2.1.2.1, x1.2.2.2.2.2.2.2.2.2.2.2.2.2.2.1.2.2), (x1.2.2.2.2.2.2.2.2.2.2.2.2.2.2.2.1.1, x1.2.2.2.2.2.2.2.2.2.2.2.2.2.2.2.1.2.1, x1.2.2.2.2.2.2.2.2.2.2.2.2.2.2.2.1.2.2), ()) r10.2.2.1 r10.2.2.2.1 r10.2.2.2.2.1 r10.2.2.2.2.2.1).bind fun r21 =>
  (ferry_Drop (r20.2.1.1, r20.2.1.2.1, r20.2.1.2.2.1, r20.2.1.2.2.2.1, r20.2.1.2.2.2.2.1, r20.2.1.2.2.2.2.2.1, (), ())).bind fun r22 =>
  some ((((r20.2.1.2.2.2.2.2.2.1 : Nat) : Int), true, (r21.1.1, r21.1.2.1, r21.1.2.2.1, r21.1.2.2.2.1, r21.1.2.2.2.2.1, r21.1.2.2.2.2.2.1, r20.2.1.2.2.2.2.2.2.1, ()), ()), ((r22.2.1.1, r22.2.1.2.1, r22.2.1.2.2.1, r22.2.1.2.2.2.1, r22.2.1.2.2.2.2.1, r22.2.1.2.2.2.2.2.1, r22.2.1.2.2.2.2.2.2.1, ()), r10.2.1, r21.2.1, r21.2.2.1, r21.2.2.2.1, r21.2.2.2.2.1, r20.2.2.1, (), r21.2.2.2.2.2.1, r21.2.2.2.2.2.2.1, r21.2.2.2.2.2.2.2.1, r21.2.2.2.2.2.2.2.2.1, r20.2.2.2.2.1, r22.2.2.1, ())))
  else none)
  else
  (bif (decide ((((h0.2.2.2.2.2.2.1 : Nat) : Int) : Int) < h0.2.2.2.1)) then
  some ((((h0.2.2.2.2.2.2.1 : Nat) : Int), false, (0, 0, 0, 0, 0, 0, 0, ()), ()), ((h0.1, h0.2.1, h0.2.2.1, h0.2.2.2.1, h0.2.2.2.2.1, h0.2.2.2.2.2.1, h0.2.2.2.2.2.2.1, ()), r10.2.1, r10.2.2.1, r10.2.2.2.1, r10.2.2.2.2.1, r10.2.2.2.2.2.1, r10.2.2.2.2.2.2.1, (), [], [], [], [], [], h7, ()))
  else
  (ferry_own_3 (x1.2.2.2.2.2.2.2.2.2.2.1, x1.2.2.2.2.2.2.2.2.2.2.2.1, (x1.2.2.2.2.2.2.2.2.2.2.2.2.1.1, x1.2.2.2.2.2.2.2.2.2.2.2.2.1.2.1, x1.2.2.2.2.2.2.2.2.2.2.2.2.1.2.2), (x1.2.2.2.2.2.2.2.2.2.2.2.2.2.1.1, x1.2.2.2.2.2.2.2.2.2.2.2.2.2.1.2.1, x1.2.2.2.2.2.2.2.2.2.2.2.2.2.1.2.2), (x1.2.2.2.2.2.2.2.2.2.2.2.2.2.2.1.1, x1.2.2.2.2.2.2.2.2.2.2.2.2.2.2.1.2.1, x1.2.2.2.2.2.2.2.2.2.2.2.2.2.2.1.2.2), (x1.2.2.2.2.2.2.2.2.2.2.2.2.2.2.2.1.1, x1.2.2.2.2.2.2.2.2.2.2.2.2.2.2.2.1.2.1, x1.2.2.2.2.2.2.2.2.2.2.2.2.2.2.2.1.2.2), ()) r10.2.2.1 r10.2.2.2.1 r10.2.2.2.2.1 r10.2.2.2.2.2.1).bind fun r23 =>
  (ferry_Drop (h0.1, h0.2.1, h0.2.2.1, h0.2.2.2.1, h0.2.2.2.2.1, h0.2.2.2.2.2.1, (), ())).bind fun r24 =>
  some ((((h0.2.2.2.2.2.2.1 : Nat) : Int), true, (r23.1.1, r23.1.2.1, r23.1.2.2.1, r23.1.2.2.2.1, r23.1.2.2.2.2.1, r23.1.2.2.2.2.2.1, h0.2.2.2.2.2.2.1, ()), ()), ((r24.2.1.1, r24.2.1.2.1, r24.2.1.2.2.1, r24.2.1.2.2.2.1, r24.2.1.2.2.2.2.1, r24.2.1.2.2.2.2.2.1, r24.2.1.2.2.2.2.2.2.1, ()), r10.2.1, r23.2.1, r23.2.2.1, r23.2.2.2.1, r23.2.2.2.2.1, r10.2.2.2.2.2.2.1, (), r23.2.2.2.2.2.1, r23.2.2.2.2.2.2.1, r23.2.2.2.2.2.2.2.1, r23.2.2.2.2.2.2.2.2.1, h7, r24.2.2.1, ()))))))))
noncomputable def ferry_Take_2_ce : CE CT Try.prog where
  f := 22
  args := [.one (.ptr 0 0), .agg [.int .u8, .int .i64, .int .i64, .int .i64, .int .i64, .int .i64, .int .i64, .int .i64, .bool, .gv 1 28 3, .int .i64, .int .i64, .as 0 2, .as 0 3, .as 0 4, .as 0 5, .int .i64, .int .i64, .int .i64, .as 1 6]]
  hs := [.obj 56 [.int .i64, .int .i64, .int .i64, .int .i64, .bool, .bool, .asz 1 7], .gen 8 true, .arr 3 0 true, .arr 3 0 true, .arr 3 0 true, .arr 3 0 true, .arr 5 1 true, .arr 5 1 false]
  res := .tup [.one (.int .i64), .one (.bool), .agg [.int .i64, .int .i64, .asz 0 8, .asz 0 9, .asz 0 10, .asz 0 11, .asz 1 12]]
  outs := [.obj 56 [.int .i64, .int .i64, .int .i64, .int .i64, .bool, .bool, .asz 1 13], .gen 8 true, .arr 3 0 true, .arr 3 0 true, .arr 3 0 true, .arr 3 0 true, .arr 5 1 true, .dead, .arr 3 0 false, .arr 3 0 false, .arr 3 0 false, .arr 3 0 false, .arr 5 1 false, .arr 5 1 false]
  m := fun d dh => ferry_Take_2 d.2.1 dh.1 dh.2.1 dh.2.2.1 dh.2.2.2.1 dh.2.2.2.2.1 dh.2.2.2.2.2.1 dh.2.2.2.2.2.2.1 dh.2.2.2.2.2.2.2.1
  ok := ce_ok mixedP Try.func22 (by kernel_rfl) (orcOf_ok ferry_Take_2_tb) (dr := ferry_Take_2_dr) (lps := lpsOf ferry_Take_2_lt) (lps_fn (no_loop (by kernel_rfl))) (fun d dh => by kernel_rfl)

def watershedref13_Take_dr : Nat → Nat → DrA
  | 3, _ => ⟨[0, 1, 2, 3, 4, 5, 6, 7, 8, 10, 9, 11, 12, 13, 14, 15, 16, 17, 19, 20, 18, 21, 22, 23, 24, 25, 26, 27, 29, 30, 28, 31, 32, 33, 34, 35, 36, 37, 39, 38, 40, 41, 42], [[], [0], [0, 1], [0, 1, 2], [0, 1, 2, 3], [0, 1, 2, 3, 4], [0, 1, 2, 3, 4, 5], [0, 1, 2, 3, 4, 5, 6], [0, 1, 2, 3, 4, 5, 6, 7], [0, 1, 2, 3, 4, 5, 6, 7, 8], [0, 1, 2, 3, 4, 5], [0, 1, 2, 3, 4, 5, 10], [0, 1, 2, 3, 4, 5, 6, 7, 8, 9, 10, 11], [0, 1, 2, 3, 4, 5, 6, 7, 8, 9, 10, 11, 12], [0, 1, 2, 3, 4, 5, 6, 7, 8, 9, 10, 11, 12, 13], [0, 1, 2, 3, 4, 5, 6, 7, 8, 9, 10, 11, 12, 13, 14], [0, 1, 2, 3, 4, 5, 6, 7, 8, 9, 10, 11, 12, 13, 14, 15], [0, 1, 2, 3, 4, 5, 6, 7, 8, 9, 10, 11, 12, 13, 14, 15, 16], [0, 1, 2, 3, 4, 5, 6, 7, 8, 9, 10, 11, 12, 13, 14, 15, 16, 17], [0, 1, 2, 3, 4, 5, 6, 7, 8, 9, 10, 11, 12, 13, 14], [0, 1, 2, 3, 4, 5, 6, 7, 8, 9, 10, 11, 12, 13, 14, 19], [0, 1, 2, 3, 4, 5, 6, 7, 8, 9, 10, 11, 12, 13, 14, 19, 20], [0, 1, 2, 3, 4, 5, 6, 7, 8, 9, 10, 11, 12, 13, 14, 15, 16, 17, 18, 19, 20, 21], [0, 1, 2, 3, 4, 5, 6, 7, 8, 9, 10, 11, 12, 13, 14, 15, 16, 17, 18, 19, 20, 21, 22], [0, 1, 2, 3, 4, 5, 6, 7, 8, 9, 10, 11, 12, 13, 14, 15, 16, 17, 18, 19, 20, 21, 22, 23], [0, 1, 2, 3, 4, 5, 6, 7, 8, 9, 10, 11, 12, 13, 14, 15, 16, 17, 18, 19, 20, 21, 22, 23, 24], [0, 1, 2, 3, 4, 5, 6, 7, 8, 9, 10, 11, 12, 13, 14, 15, 16, 17, 18, 19, 20, 21, 22, 23, 24, 25], [0, 1, 2, 3, 4, 5, 6, 7, 8, 9, 10, 11, 12, 13, 14, 15, 16, 17, 18, 19, 20, 21, 22, 23, 24, 25, 26], [0, 1, 2, 3, 4, 5, 6, 7, 8, 9, 10, 11, 12, 13, 14, 15, 16, 17, 18, 19, 20, 21, 22, 23, 24, 25, 26, 27], [0, 1, 2, 3, 4, 5, 6, 7, 8, 9, 10, 11, 12, 13, 14, 15, 16, 17, 18, 19, 20, 21, 22, 23, 24], [0, 1, 2, 3, 4, 5, 6, 7, 8, 9, 10, 11, 12, 13, 14, 15, 16, 17, 18, 19, 20, 21, 22, 23, 24, 29], [0, 1, 2, 3, 4, 5, 6, 7, 8, 9, 10, 11, 12, 13, 14, 15, 16, 17, 18, 19, 20, 21, 22, 23, 24, 29, 30], [0, 1, 2, 3, 4, 5, 6, 7, 8, 9, 10, 11, 12, 13, 14, 15, 16, 17, 18, 19, 20, 21, 22, 23, 24, 25, 26, 27, 28, 29, 30, 31], [0, 1, 2, 3, 4, 5, 6, 7, 8, 9, 10, 11, 12, 13, 14, 15, 16, 17, 18, 19, 20, 21, 22, 23, 24, 25, 26, 27, 28, 29, 30, 31, 32], [0, 1, 2, 3, 4, 5, 6, 7, 8, 9, 10, 11, 12, 13, 14, 15, 16, 17, 18, 19, 20, 21, 22, 23, 24, 25, 26, 27, 28, 29, 30, 31, 32, 33], [0, 1, 2, 3, 4, 5, 6, 7, 8, 9, 10, 11, 12, 13, 14, 15, 16, 17, 18, 19, 20, 21, 22, 23, 24, 25, 26, 27, 28, 29, 30, 31, 32, 33, 34], [0, 1, 2, 3, 4, 5, 6, 7, 8, 9, 10, 11, 12, 13, 14, 15, 16, 17, 18, 19, 20, 21, 22, 23, 24, 25, 26, 27, 28, 29, 30, 31, 32, 33, 34, 35], [0, 1, 2, 3, 4, 5, 6, 7, 8, 9, 10, 11, 12, 13, 14, 15, 16, 17, 18, 19, 20, 21, 22, 23, 24, 25, 26, 27, 28, 29, 30, 31, 32, 33, 34, 35, 36], [0, 1, 2, 3, 4, 5, 6, 7, 8, 9, 10, 11, 12, 13, 14, 15, 16, 17, 18, 19, 20, 21, 22, 23, 24, 25, 26, 27, 28, 29, 30, 31, 32, 33, 34, 35, 36, 37], [0, 1, 2, 3, 4, 5, 6, 7, 8, 9, 10, 11, 12, 13, 14, 15, 16, 17, 18, 19, 20, 21, 22, 23, 24, 25, 26, 27, 28, 29, 30, 31, 32, 33, 34], [0, 1, 2, 3, 4, 5, 6, 7, 8, 9, 10, 11, 12, 13, 14, 15, 16, 17, 18, 19, 20, 21, 22, 23, 24, 25, 26, 27, 28, 29, 30, 31, 32, 33, 34, 39], [0, 1, 2, 3, 4, 5, 6, 7, 8, 9, 10, 11, 12, 13, 14, 15, 16, 17, 18, 19, 20, 21, 22, 23, 24, 25, 26, 27, 28, 29, 30, 31, 32, 33, 34, 35, 36, 37, 38, 39, 40], [0, 1, 2, 3, 4, 5, 6, 7, 8, 9, 10, 11, 12, 13, 14, 15, 16, 17, 18, 19, 20, 21, 22, 23, 24, 25, 26, 27, 28, 29, 30, 31, 32, 33, 34, 35, 36, 37, 38, 39, 40, 41]], [], [], [], false, []⟩
  | 8, _ => ⟨[0, 1, 2, 3, 4, 5, 6, 8, 9, 10, 7, 11, 12, 13, 14], [[], [], [1], [1, 2], [0, 1, 2, 3], [0, 1, 2, 3, 4], [0, 1, 2, 3, 4, 5], [0, 1, 2, 3, 4, 5, 6], [0, 1, 2, 3, 4, 5], [0, 1, 2, 3, 4, 5, 8], [0, 1, 2, 3, 4, 5, 8, 9], [0, 1, 2, 3, 4, 5, 8, 9, 10], [0, 1, 2, 3, 4, 5, 8, 9, 10, 11], [0, 1, 2, 3, 4, 5, 6, 7, 8, 9, 10, 11, 12], [0, 1, 2, 3, 4, 5, 6, 7, 8, 9, 10, 11, 12, 13]], [], [], [], false, []⟩
  | 10, _ => ⟨[0, 2, 4, 5, 6, 1, 3, 7, 8, 9], [[], [0], [], [0, 1, 2], [], [4], [4, 5], [4, 5, 6], [4, 5, 6, 7], [0, 1, 2, 3, 4, 5, 6, 7, 8]], [], [], [], false, []⟩
  | 11, _ => ⟨[0, 1, 2, 3, 5, 7, 4, 6, 8, 9, 10, 11, 12, 13, 14], [[], [], [1], [1, 2], [1, 2, 3], [], [5], [], [5, 6, 7], [5, 6, 7, 8], [5, 6, 7, 8, 9], [1, 2, 3, 4, 5, 6, 7, 8, 9, 10], [0, 1, 2, 3, 4, 5, 6, 7, 8, 9, 10, 11], [0, 1, 2, 3, 4, 5, 6, 7, 8, 9, 10, 11, 12], [0, 1, 2, 3, 4, 5, 6, 7, 8, 9, 10, 11, 12, 13]], [], [], [], false, []⟩
  | 12, _ => ⟨[0, 1, 2, 5, 6, 7, 3, 4, 8, 9], [[], [0], [0, 1], [0, 1, 2], [0, 1, 2, 3], [], [5], [5, 6], [5, 6, 7], [0, 1, 2, 3, 4, 5, 6, 7, 8]], [], [], [], false, []⟩
  | 14, _ => ⟨[0, 3, 4, 5, 1, 6, 2, 7, 8, 9], [[], [0], [0, 1], [], [3], [3, 4], [3, 4, 5], [0, 1, 2, 3, 4, 5, 6], [], [0, 1, 2, 3, 4, 5, 6, 7, 8]], [6], [2], [0], false, []⟩
  | 16, _ => ⟨[0, 1, 3, 4, 2, 5], [[], [0], [], [0, 1], [0, 1, 3], [0, 1, 2, 3, 4]], [], [], [], false, []⟩
  | _, _ => ⟨[], [], [], [], [], false, []⟩
noncomputable def watershedref13_Take_tb : List (CE CT Try.prog) := [watershedkit_CopyBase_ce, watershedref13_Drop_ce]
noncomputable def watershedref13_Take_l1 (a : ((Unit) × (Unit) × (Unit) × (Int) × Unit) × (((Bool) × (Int) × (Int) × (Int) × (Int) × (List (UInt8)) × Unit) × (DLetter) × ((Int) × (Int) × (List (Int)) × (List (Int)) × (List (Int)) × (List (Int)) × (List (UInt8)) × Unit) × (Unit) × (Unit) × (Unit) × (Unit) × (Unit) × (Unit) × Unit)) : Option ((((Unit) × (Unit) × (Unit) × (Int) × Unit) × (((Bool) × (Int) × (Int) × (Int) × (Int) × (List (UInt8)) × Unit) × (DLetter) × ((Int) × (Int) × (List (Int)) × (List (Int)) × (List (Int)) × (List (Int)) × (List (UInt8)) × Unit) × (Unit) × (Unit) × (Unit) × (Unit) × (Unit) × (Unit) × Unit)) ⊕ ((((Unit) × (Unit) × (Unit) × Unit) × (((Bool) × (Int) × (Int) × (Int) × (Int) × (List (UInt8)) × Unit) × (DLetter) × ((Int) × (Int) × (List (Int)) × (List (Int)) × (List (Int)) × (List (Int)) × (List (UInt8)) × Unit) × (Unit) × (Unit) × (Unit) × (Unit) × (Unit) × (Unit) × (Unit) × (Unit) × (Unit) × (Unit) × (Unit) × (Unit) × Unit)))) :=
  (bif (decide ((a.1.2.2.2.1 : Int) < (a.2.2.1.bytes.length : Int))) then
  (bif (decide ((a.2.2.1.at_ : Int) ≤ (a.2.1.2.2.2.2.2.1.length : Int))) then
  (bif (decide (((IntKind.i64.wrap (a.2.2.1.at_ + a.1.2.2.2.1)) : Int) = (a.2.1.2.2.2.2.2.1.length : Int))) then
  (getI a.2.2.1.bytes a.1.2.2.2.1).bind fun e1 =>
  (b8 (e1.toNat : Int)).bind fun u2 =>
  (if a.2.1.2.2.2.2.2.1.length + ([u2] : List (UInt8)).length ≤ 140737488355328 ∧ (a.2.1.2.2.2.2.2.1.length + ([u2] : List (UInt8)).length) * 1 ≤ 140737488355328 then
  some (.inl (((), (), (), (IntKind.i64.wrap (a.1.2.2.2.1 + 1)), ()), ((a.2.1.1, a.2.1.2.1, a.2.1.2.2.1, a.2.1.2.2.2.1, a.2.1.2.2.2.2.1, (a.2.1.2.2.2.2.2.1 ++ ([u2] : List (UInt8))), ()), a.2.2.1, (a.2.2.2.1.1, a.2.2.2.1.2.1, a.2.2.2.1.2.2.1, a.2.2.2.1.2.2.2.1, a.2.2.2.1.2.2.2.2.1, a.2.2.2.1.2.2.2.2.2.1, a.2.2.2.1.2.2.2.2.2.2.1, ()), (), (), (), (), (), (), ())))
  else none)
  else
  some (.inl (((), (), (), (IntKind.i64.wrap (a.1.2.2.2.1 + 1)), ()), ((a.2.1.1, a.2.1.2.1, a.2.1.2.2.1, a.2.1.2.2.2.1, a.2.1.2.2.2.2.1, a.2.1.2.2.2.2.2.1, ()), a.2.2.1, (a.2.2.2.1.1, a.2.2.2.1.2.1, a.2.2.2.1.2.2.1, a.2.2.2.1.2.2.2.1, a.2.2.2.1.2.2.2.2.1, a.2.2.2.1.2.2.2.2.2.1, a.2.2.2.1.2.2.2.2.2.2.1, ()), (), (), (), (), (), (), ()))))
  else
  some (.inr (((), (), (), ()), ((a.2.1.1, a.2.1.2.1, a.2.1.2.2.1, a.2.1.2.2.2.1, a.2.1.2.2.2.2.1, a.2.1.2.2.2.2.2.1, ()), a.2.2.1, (a.2.2.2.1.1, a.2.2.2.1.2.1, a.2.2.2.1.2.2.1, a.2.2.2.1.2.2.2.1, a.2.2.2.1.2.2.2.2.1, a.2.2.2.1.2.2.2.2.2.1, a.2.2.2.1.2.2.2.2.2.2.1, ()), (), (), (), (), (), (), (), (), (), (), (), (), ()))))
  else
  some (.inr (((), (), (), ()), ((a.2.1.1, a.2.1.2.1, a.2.1.2.2.1, a.2.1.2.2.2.1, a.2.1.2.2.2.2.1, a.2.1.2.2.2.2.2.1, ()), a.2.2.1, (a.2.2.2.1.1, a.2.2.2.1.2.1, a.2.2.2.1.2.2.1, a.2.2.2.1.2.2.2.1, a.2.2.2.1.2.2.2.2.1, a.2.2.2.1.2.2.2.2.2.1, a.2.2.2.1.2.2.2.2.2.2.1, ()), (), (), (), (), (), (), (), (), (), (), (), (), ()))))
noncomputable def watershedref13_Take_e1 : LE CT Try.prog := ⟨8, [0, 3, 6, 7], [.one (.ptr 0 0), .one (.ptr 1 0), .one (.ptr 2 0), .one (.int .i64)], [.obj 73 [.bool, .int .i64, .int .i64, .int .i64, .int .i64, .own 1 3], .cobj 31 19, .obj 33 [.int .i64, .int .i64, .own 0 4, .own 0 5, .own 0 6, .own 0 7, .own 1 8], .row 5 1, .row 3 1, .row 3 1, .row 3 1, .row 3 1, .row 5 1], [⟨.exit 0, [0, 3, 6], [.one (.ptr 0 0), .one (.ptr 1 0), .one (.ptr 2 0)], [.obj 73 [.bool, .int .i64, .int .i64, .int .i64, .int .i64, .own 1 9], .cobj 31 19, .obj 33 [.int .i64, .int .i64, .own 0 10, .own 0 11, .own 0 12, .own 0 13, .own 1 14], .dead, .dead, .dead, .dead, .dead, .dead, .row 5 1, .row 3 1, .row 3 1, .row 3 1, .row 3 1, .row 5 1]⟩], watershedref13_Take_l1⟩
noncomputable def watershedref13_Take_lt : List (LE CT Try.prog) := [watershedref13_Take_e1]
theorem watershedref13_Take_e1_ok : LeOk watershedref13_Take_e1 (nthL (bodyOf Try.f23) 0) := fun A env h k z hk => le_ok (E := watershedref13_Take_e1) (orcOf_ok watershedref13_Take_tb) (dr := watershedref13_Take_dr) (lps := lpsOf watershedref13_Take_lt) (no_loop (by kernel_rfl)) (fun a => by kernel_rfl) env h k z hk
noncomputable def watershedref13_Take (x1 : DLetter) (h0 : (Bool) × (Int) × (Int) × (Int) × (Int) × (List (UInt8)) × Unit) : Option (((Int) × (Bool) × (DImage) × Unit) × (((Bool) × (Int) × (Int) × (Int) × (Int) × (List (UInt8)) × Unit) × (Unit) × (Unit) × Unit)) :=
  (bif (decide ((x1.kind : Int) ≠ 5)) then
  some ((0, false, (⟨(⟨0, 0, (⟨[], [], [], []⟩ : DConfig)⟩ : DBase), []⟩ : DImage), ()), ((h0.1, h0.2.1, h0.2.2.1, h0.2.2.2.1, h0.2.2.2.2.1, h0.2.2.2.2.2.1, ()), (), (), ()))
  else
  (bif (decide ((x1.size : Int) < 0)) then
  some ((0, false, (⟨(⟨0, 0, (⟨[], [], [], []⟩ : DConfig)⟩ : DBase), []⟩ : DImage), ()), ((h0.1, h0.2.1, h0.2.2.1, h0.2.2.2.1, h0.2.2.2.2.1, h0.2.2.2.2.2.1, ()), (), (), ()))
  else
  (bif (decide ((131072 : Int) < x1.size)) then
  some ((0, false, (⟨(⟨0, 0, (⟨[], [], [], []⟩ : DConfig)⟩ : DBase), []⟩ : DImage), ()), ((h0.1, h0.2.1, h0.2.2.1, h0.2.2.2.1, h0.2.2.2.2.1, h0.2.2.2.2.2.1, ()), (), (), ()))
  else
  (bif (decide ((x1.at_ : Int) < 0)) then
  some ((0, false, (⟨(⟨0, 0, (⟨[], [], [], []⟩ : DConfig)⟩ : DBase), []⟩ : DImage), ()), ((h0.1, h0.2.1, h0.2.2.1, h0.2.2.2.1, h0.2.2.2.2.1, h0.2.2.2.2.2.1, ()), (), (), ()))
  else
  (bif (decide ((x1.size : Int) < x1.at_)) then
  some ((0, false, (⟨(⟨0, 0, (⟨[], [], [], []⟩ : DConfig)⟩ : DBase), []⟩ : DImage), ()), ((h0.1, h0.2.1, h0.2.2.1, h0.2.2.2.1, h0.2.2.2.2.1, h0.2.2.2.2.2.1, ()), (), (), ()))
  else
  (bif (decide (((IntKind.i64.wrap (x1.size - x1.at_)) : Int) < (x1.bytes.length : Int))) then
  some ((0, false, (⟨(⟨0, 0, (⟨[], [], [], []⟩ : DConfig)⟩ : DBase), []⟩ : DImage), ()), ((h0.1, h0.2.1, h0.2.2.1, h0.2.2.2.1, h0.2.2.2.2.1, h0.2.2.2.2.2.1, ()), (), (), ()))
  else
  (bif (!h0.1) then
  (bif (decide ((x1.at_ : Int) ≠ 0)) then
  some ((0, false, (⟨(⟨0, 0, (⟨[], [], [], []⟩ : DConfig)⟩ : DBase), []⟩ : DImage), ()), ((h0.1, h0.2.1, h0.2.2.1, h0.2.2.2.1, h0.2.2.2.2.1, h0.2.2.2.2.2.1, ()), (), (), ()))
  else
  (loopM watershedref13_Take_l1 (((), (), (), 0, ()), ((true, x1.term_, x1.base.index, x1.base.term_, x1.size, [], ()), x1, (0, 0, [], [], [], [], [], ()), (), (), (), (), (), (), ()))).bind fun b1 =>
  (bif (decide (((b1.2.1.2.2.2.2.2.1.length : Int) : Int) < b1.2.1.2.2.2.2.1)) then
  some (((b1.2.1.2.2.2.2.2.1.length : Int), false, (⟨(⟨0, 0, (⟨[], [], [], []⟩ : DConfig)⟩ : DBase), []⟩ : DImage), ()), ((b1.2.1.1, b1.2.1.2.1, b1.2.1.2.2.1, b1.2.1.2.2.2.1, b1.2.1.2.2.2.2.1, b1.2.1.2.2.2.2.2.1, ()), (), (), ()))
  else
  (watershedkit_CopyBase b1.2.2.1.base).bind fun r2 =>
  (watershedref13_Drop (b1.2.1.1, b1.2.1.2.1, b1.2.1.2.2.1, b1.2.1.2.2.2.1, b1.2.1.2.2.2.2.1, b1.2.1.2.2.2.2.2.1, ())).bind fun r3 =>
  some ((b1.2.2.1.size, true, (⟨r2.1, b1.2.1.2.2.2.2.2.1⟩ : DImage), ()), ((r3.2.1.1, r3.2.1.2.1, r3.2.1.2.2.1, r3.2.1.2.2.2.1, r3.2.1.2.2.2.2.1, r3.2.1.2.2.2.2.2.1, ()), (), (), ()))))
  else
  (bif (decide ((h0.2.1 : Int) ≠ x1.term_)) then
  (bif (decide ((x1.at_ : Int) ≠ 0)) then
  some ((0, false, (⟨(⟨0, 0, (⟨[], [], [], []⟩ : DConfig)⟩ : DBase), []⟩ : DImage), ()), ((h0.1, h0.2.1, h0.2.2.1, h0.2.2.2.1, h0.2.2.2.2.1, h0.2.2.2.2.2.1, ()), (), (), ()))
  else
  (loopM watershedref13_Take_l1 (((), (), (), 0, ()), ((true, x1.term_, x1.base.index, x1.base.term_, x1.size, [], ()), x1, (0, 0, [], [], [], [], [], ()), (), (), (), (), (), (), ()))).bind fun b4 =>
  (bif (decide (((b4.2.1.2.2.2.2.2.1.length : Int) : Int) < b4.2.1.2.2.2.2.1)) then
  some (((b4.2.1.2.2.2.2.2.1.length : Int), false, (⟨(⟨0, 0, (⟨[], [], [], []⟩ : DConfig)⟩ : DBase), []⟩ : DImage), ()), ((b4.2.1.1, b4.2.1.2.1, b4.2.1.2.2.1, b4.2.1.2.2.2.1, b4.2.1.2.2.2.2.1, b4.2.1.2.2.2.2.2.1, ()), (), (), ()))
  else
  (watershedkit_CopyBase b4.2.2.1.base).bind fun r5 =>
  (watershedref13_Drop (b4.2.1.1, b4.2.1.2.1, b4.2.1.2.2.1, b4.2.1.2.2.2.1, b4.2.1.2.2.2.2.1, b4.2.1.2.2.2.2.2.1, ())).bind fun r6 =>
  some ((b4.2.2.1.size, true, (⟨r5.1, b4.2.1.2.2.2.2.2.1⟩ : DImage), ()), ((r6.2.1.1, r6.2.1.2.1, r6.2.1.2.2.1, r6.2.1.2.2.2.1, r6.2.1.2.2.2.2.1, r6.2.1.2.2.2.2.2.1, ()), (), (), ()))))
  else
  (bif (decide ((h0.2.2.1 : Int) ≠ x1.base.index)) then
  (bif (decide ((x1.at_ : Int) ≠ 0)) then
  some ((0, false, (⟨(⟨0, 0, (⟨[], [], [], []⟩ : DConfig)⟩ : DBase), []⟩ : DImage), ()), ((h0.1, h0.2.1, h0.2.2.1, h0.2.2.2.1, h0.2.2.2.2.1, h0.2.2.2.2.2.1, ()), (), (), ()))
  else
  (loopM watershedref13_Take_l1 (((), (), (), 0, ()), ((true, x1.term_, x1.base.index, x1.base.term_, x1.size, [], ()), x1, (0, 0, [], [], [], [], [], ()), (), (), (), (), (), (), ()))).bind fun b7 =>
  (bif (decide (((b7.2.1.2.2.2.2.2.1.length : Int) : Int) < b7.2.1.2.2.2.2.1)) then
  some (((b7.2.1.2.2.2.2.2.1.length : Int), false, (⟨(⟨0, 0, (⟨[], [], [], []⟩ : DConfig)⟩ : DBase), []⟩ : DImage), ()), ((b7.2.1.1, b7.2.1.2.1, b7.2.1.2.2.1, b7.2.1.2.2.2.1, b7.2.1.2.2.2.2.1, b7.2.1.2.2.2.2.2.1, ()), (), (), ()))
  else
  (watershedkit_CopyBase b7.2.2.1.base).bind fun r8 =>
  (watershedref13_Drop (b7.2.1.1, b7.2.1.2.1, b7.2.1.2.2.1, b7.2.1.2.2.2.1, b7.2.1.2.2.2.2.1, b7.2.1.2.2.2.2.2.1, ())).bind fun r9 =>
  some ((b7.2.2.1.size, true, (⟨r8.1, b7.2.1.2.2.2.2.2.1⟩ : DImage), ()), ((r9.2.1.1, r9.2.1.2.1, r9.2.1.2.2.1, r9.2.1.2.2.2.1, r9.2.1.2.2.2.2.1, r9.2.1.2.2.2.2.2.1, ()), (), (), ()))))
  else
  (bif (decide ((h0.2.2.2.1 : Int) ≠ x1.base.term_)) then
  (bif (decide ((x1.at_ : Int) ≠ 0)) then
  some ((0, false, (⟨(⟨0, 0, (⟨[], [], [], []⟩ : DConfig)⟩ : DBase), []⟩ : DImage), ()), ((h0.1, h0.2.1, h0.2.2.1, h0.2.2.2.1, h0.2.2.2.2.1, h0.2.2.2.2.2.1, ()), (), (), ()))
  else
  (loopM watershedref13_Take_l1 (((), (), (), 0, ()), ((true, x1.term_, x1.base.index, x1.base.term_, x1.size, [], ()), x1, (0, 0, [], [], [], [], [], ()), (), (), (), (), (), (), ()))).bind fun b10 =>
  (bif (decide (((b10.2.1.2.2.2.2.2.1.length : Int) : Int) < b10.2.1.2.2.2.2.1)) then
  some (((b10.2.1.2.2.2.2.2.1.length : Int), false, (⟨(⟨0, 0, (⟨[], [], [], []⟩ : DConfig)⟩ : DBase), []⟩ : DImage), ()), ((b10.2.1.1, b10.2.1.2.1, b10.2.1.2.2.1, b10.2.1.2.2.2.1, b10.2.1.2.2.2.2.1, b10.2.1.2.2.2.2.2.1, ()), (), (), ()))
  else
  (watershedkit_CopyBase b10.2.2.1.base).bind fun r11 =>
  (watershedref13_Drop (b10.2.1.1, b10.2.1.2.1, b10.2.1.2.2.1, b10.2.1.2.2.2.1, b10.2.1.2.2.2.2.1, b10.2.1.2.2.2.2.2.1, ())).bind fun r12 =>
  some ((b10.2.2.1.size, true, (⟨r11.1, b10.2.1.2.2.2.2.2.1⟩ : DImage), ()), ((r12.2.1.1, r12.2.1.2.1, r12.2.1.2.2.1, r12.2.1.2.2.2.1, r12.2.1.2.2.2.2.1, r12.2.1.2.2.2.2.2.1, ()), (), (), ()))))
  else
  (bif (decide ((h0.2.2.2.2.1 : Int) ≠ x1.size)) then
  (bif (decide ((x1.at_ : Int) ≠ 0)) then
  some ((0, false, (⟨(⟨0, 0, (⟨[], [], [], []⟩ : DConfig)⟩ : DBase), []⟩ : DImage), ()), ((h0.1, h0.2.1, h0.2.2.1, h0.2.2.2.1, h0.2.2.2.2.1, h0.2.2.2.2.2.1, ()), (), (), ()))
  else
  (loopM watershedref13_Take_l1 (((), (), (), 0, ()), ((true, x1.term_, x1.base.index, x1.base.term_, x1.size, [], ()), x1, (0, 0, [], [], [], [], [], ()), (), (), (), (), (), (), ()))).bind fun b13 =>
  (bif (decide (((b13.2.1.2.2.2.2.2.1.length : Int) : Int) < b13.2.1.2.2.2.2.1)) then
  some (((b13.2.1.2.2.2.2.2.1.length : Int), false, (⟨(⟨0, 0, (⟨[], [], [], []⟩ : DConfig)⟩ : DBase), []⟩ : DImage), ()), ((b13.2.1.1, b13.2.1.2.1, b13.2.1.2.2.1, b13.2.1.2.2.2.1, b13.2.1.2.2.2.2.1, b13.2.1.2.2.2.2.2.1, ()), (), (), ()))
  else
  (watershedkit_CopyBase b13.2.2.1.base).bind fun r14 =>
  (watershedref13_Drop (b13.2.1.1, b13.2.1.2.1, b13.2.1.2.2.1, b13.2.1.2.2.2.1, b13.2.1.2.2.2.2.1, b13.2.1.2.2.2.2.2.1, ())).bind fun r15 =>
  some ((b13.2.2.1.size, true, (⟨r14.1, b13.2.1.2.2.2.2.2.1⟩ : DImage), ()), ((r15.2.1.1, r15.2.1.2.1, r15.2.1.2.2.1, r15.2.1.2.2.2.1, r15.2.1.2.2.2.2.1, r15.2.1.2.2.2.2.2.1, ()), (), (), ()))))
  else
  (loopM watershedref13_Take_l1 (((), (), (), 0, ()), ((h0.1, h0.2.1, h0.2.2.1, h0.2.2.2.1, h0.2.2.2.2.1, h0.2.2.2.2.2.1, ()), x1, (0, 0, [], [], [], [], [], ()), (), (), (), (), (), (), ()))).bind fun b16 =>
  (bif (decide (((b16.2.1.2.2.2.2.2.1.length : Int) : Int) < b16.2.1.2.2.2.2.1)) then
  some (((b16.2.1.2.2.2.2.2.1.length : Int), false, (⟨(⟨0, 0, (⟨[], [], [], []⟩ : DConfig)⟩ : DBase), []⟩ : DImage), ()), ((b16.2.1.1, b16.2.1.2.1, b16.2.1.2.2.1, b16.2.1.2.2.2.1, b16.2.1.2.2.2.2.1, b16.2.1.2.2.2.2.2.1, ()), (), (), ()))
  else
  (watershedkit_CopyBase b16.2.2.1.base).bind fun r17 =>
  (watershedref13_Drop (b16.2.1.1, b16.2.1.2.1, b16.2.1.2.2.1, b16.2.1.2.2.2.1, b16.2.1.2.2.2.2.1, b16.2.1.2.2.2.2.2.1, ())).bind fun r18 =>
  some ((b16.2.2.1.size, true, (⟨r17.1, b16.2.1.2.2.2.2.2.1⟩ : DImage), ()), ((r18.2.1.1, r18.2.1.2.1, r18.2.1.2.2.1, r18.2.1.2.2.2.1, r18.2.1.2.2.2.2.1, r18.2.1.2.2.2.2.2.1, ()), (), (), ()))))))))))))))
noncomputable def watershedref13_Take_ce : CE CT Try.prog where
  f := 23
  args := [.one (.ptr 0 0), .cod 19]
  hs := [.obj 73 [.bool, .int .i64, .int .i64, .int .i64, .int .i64, .own 1 1], .row 5 1]
  res := .tup [.one (.int .i64), .one (.bool), .cod 20]
  outs := [.obj 73 [.bool, .int .i64, .int .i64, .int .i64, .int .i64, .own 1 2], .dead, .row 5 1]
  m := fun d dh => watershedref13_Take d.2.1 dh.1
  ok := ce_ok mixedP Try.func23 (by kernel_rfl) (orcOf_ok watershedref13_Take_tb) (dr := watershedref13_Take_dr) (lps := lpsOf watershedref13_Take_lt) (lps_fn (lps_of (n := 1) (by kernel_rfl) fun i hi => match i, hi with | 0, _ => lp_ok (E := watershedref13_Take_e1) (by kernel_rfl) watershedref13_Take_e1_ok)) (fun d dh => by kernel_rfl)

def watershedkit_SameImage_3_dr : Nat → Nat → DrA
  | _, _ => ⟨[], [], [], [], [], false, []⟩
noncomputable def watershedkit_SameImage_3_tb : List (CE CT Try.prog) := [watershedkit_SameBase_2_ce, watershedkit_SameBytes_3_ce]
noncomputable def watershedkit_SameImage_3_lt : List (LE CT Try.prog) := []
noncomputable def watershedkit_SameImage_3 (x0 : (Int) × (Int) × (Nat) × (Nat) × (Nat) × (Nat) × (Nat) × Unit) (x1 : DImage) (h0 : List (Int)) (h1 : List (Int)) (h2 : List (Int)) (h3 : List (Int)) (h4 : List (UInt8)) : Option ((Bool) × ((List (Int)) × (List (Int)) × (List (Int)) × (List (Int)) × (List (UInt8)) × Unit)) :=
  (watershedkit_SameBase_2 (x0.1, x0.2.1, x0.2.2.1, x0.2.2.2.1, x0.2.2.2.2.1, x0.2.2.2.2.2.1, ()) x1.base h0 h1 h2 h3).bind fun r1 =>
  (bif r1.1 then
  (watershedkit_SameBytes_3 x0.2.2.2.2.2.2.1 x1.bytes h4).bind fun r2 =>
  some (r2.1, (r1.2.1, r1.2.2.1, r1.2.2.2.1, r1.2.2.2.2.1, r2.2.1, ()))
  else
  some (false, (r1.2.1, r1.2.2.1, r1.2.2.2.1, r1.2.2.2.2.1, h4, ())))
noncomputable def watershedkit_SameImage_3_ce : CE CT Try.prog where
  f := 24
  args := [.agg [.int .i64, .int .i64, .asz 0 0, .asz 0 1, .asz 0 2, .asz 0 3, .asz 1 4], .cod 20]
  hs := [.arr 3 0 true, .arr 3 0 true, .arr 3 0 true, .arr 3 0 true, .arr 5 1 true]
  res := .val (.one (.bool))
  outs := [.arr 3 0 true, .arr 3 0 true, .arr 3 0 true, .arr 3 0 true, .arr 5 1 true]
  m := fun d dh => watershedkit_SameImage_3 d.1 d.2.1 dh.1 dh.2.1 dh.2.2.1 dh.2.2.2.1 dh.2.2.2.2.1
  ok := ce_ok mixedP Try.func24 (by kernel_rfl) (orcOf_ok watershedkit_SameImage_3_tb) (dr := watershedkit_SameImage_3_dr) (lps := lpsOf watershedkit_SameImage_3_lt) (lps_fn (no_loop (by kernel_rfl))) (fun d dh => by kernel_rfl)

def watershedkit_OverBytes_2_dr : Nat → Nat → DrA
  | _, _ => ⟨[], [], [], [], [], false, []⟩
noncomputable def watershedkit_OverBytes_2_tb : List (CE CT Try.prog) := [watershedkit_markByte_ce]
noncomputable def watershedkit_OverBytes_2_l1 (a : ((Nat × Nat × Nat × Nat × Unit) × (Int) × Unit) × ((List (DEntryX)) × Unit)) : Option ((((Nat × Nat × Nat × Nat × Unit) × (Int) × Unit) × ((List (DEntryX)) × Unit)) ⊕ (((Unit) × ((List (DEntryX)) × Unit)))) :=
  (bif (decide ((a.1.2.1 : Int) < ((a.1.1.2.2.1 : Nat) : Int))) then
  (watershedkit_markByte 2 a.1.2.1).bind fun r1 =>
  (if 0 ≤ (a.1.2.1 : Int) ∧ (a.1.2.1 : Int) < ((a.1.1.2.2.1 : Nat) : Int) then
  (a.2.1[a.1.1.1]?).bind fun e2 =>
  (if (a.1.1.2.1 + (a.1.2.1 : Int).toNat) < (e2.command.1 ++ e2.command.2).length then
  (b8 r1.1).bind fun u3 =>
  some (.inl (((a.1.1.1, a.1.1.2.1, a.1.1.2.2.1, a.1.1.2.2.2.1, ()), (IntKind.i64.wrap (a.1.2.1 + 1)), ()), ((a.2.1.set a.1.1.1 (⟨e2.term_, e2.kind, ((((e2.command.1 ++ e2.command.2).set (a.1.1.2.1 + (a.1.2.1 : Int).toNat) u3).take e2.command.1.length), (((e2.command.1 ++ e2.command.2).set (a.1.1.2.1 + (a.1.2.1 : Int).toNat) u3).drop e2.command.1.length)), (⟨e2.config.voters, e2.config.old, e2.config.learners, e2.config.want⟩ : DConfigX)⟩ : DEntryX)), ())))
  else none)
  else none)
  else
  some (.inr ((), (a.2.1, ()))))
noncomputable def watershedkit_OverBytes_2_e1 : LE CT Try.prog := ⟨2, [2, 3], [.one (.gv 0 542 4), .one (.int .i64)], [.gen 8 true], [⟨.exit 0, [], [], [.gen 8 true]⟩], watershedkit_OverBytes_2_l1⟩
noncomputable def watershedkit_OverBytes_2_lt : List (LE CT Try.prog) := [watershedkit_OverBytes_2_e1]
theorem watershedkit_OverBytes_2_e1_ok : LeOk watershedkit_OverBytes_2_e1 (nthL (bodyOf Try.f42) 0) := fun A env h k z hk => le_ok (E := watershedkit_OverBytes_2_e1) (orcOfX_ok HK0 watershedkit_OverBytes_2_tb) (dr := watershedkit_OverBytes_2_dr) (lps := lpsOf watershedkit_OverBytes_2_lt) (no_loop (by kernel_rfl)) (fun a => by kernel_rfl) env h k z hk
noncomputable def watershedkit_OverBytes_2 (x0 : Nat × Nat × Nat × Nat × Unit) (h0 : List (DEntryX)) : Option ((Unit) × ((List (DEntryX)) × Unit)) :=
  let y1 : Int := (if ((IntKind.i64.wrap (((x0.2.2.1 : Nat) : Int) + 12)) : Int) < ((x0.2.2.2.1 : Nat) : Int) then (IntKind.i64.wrap (((x0.2.2.1 : Nat) : Int) + 12)) else ((x0.2.2.2.1 : Nat) : Int))
  (if 0 ≤ (0 : Int) ∧ (0 : Int) ≤ (y1 : Int) ∧ (y1 : Int) ≤ ((x0.2.2.2.1 : Nat) : Int) ∧ ((0 : Int) = 0 ∨ (0 : Int) < ((x0.2.2.2.1 : Nat) : Int)) then
  (loopM watershedkit_OverBytes_2_l1 (((x0.1, (x0.2.1 + (0 : Int).toNat), ((y1 : Int).toNat - (0 : Int).toNat), (x0.2.2.2.1 - (0 : Int).toNat), ()), 0, ()), (h0, ()))).bind fun b2 =>
  some ((), (b2.2.1, ()))
  else none)
noncomputable def watershedkit_OverBytes_2_ce : CE CT Try.prog where
  f := 42
  args := [.one (.gv 0 542 4)]
  hs := [.gen 8 true]
  res := .tup []
  outs := [.gen 8 true]
  m := fun d dh => watershedkit_OverBytes_2 d.1 dh.1
  ok := ce_ok mixedP Try.func42 (by kernel_rfl) (orcOfX_ok HK0 watershedkit_OverBytes_2_tb) (dr := watershedkit_OverBytes_2_dr) (lps := lpsOf watershedkit_OverBytes_2_lt) (lps_fn (lps_of (n := 1) (by kernel_rfl) fun i hi => match i, hi with | 0, _ => lp_ok (E := watershedkit_OverBytes_2_e1) (by kernel_rfl) watershedkit_OverBytes_2_e1_ok)) (fun d dh => by kernel_rfl)

def watershedkit_OverInts_2_dr : Nat → Nat → DrA
  | _, _ => ⟨[], [], [], [], [], false, []⟩
noncomputable def watershedkit_OverInts_2_tb : List (CE CT Try.prog) := [watershedkit_mark_ce]
noncomputable def watershedkit_OverInts_2_l1 (a : ((Nat × Nat × Nat × Nat × Unit) × (Int) × Unit) × ((List (DEntryX)) × Unit)) : Option ((((Nat × Nat × Nat × Nat × Unit) × (Int) × Unit) × ((List (DEntryX)) × Unit)) ⊕ (((Unit) × ((List (DEntryX)) × Unit)))) :=
  (bif (decide ((a.1.2.1 : Int) < ((a.1.1.2.2.1 : Nat) : Int))) then
  (watershedkit_mark 2 a.1.2.1).bind fun r1 =>
  (if 0 ≤ (a.1.2.1 : Int) ∧ (a.1.2.1 : Int) < ((a.1.1.2.2.1 : Nat) : Int) then
  (a.2.1[a.1.1.1]?).bind fun e2 =>
  (if (a.1.1.2.1 + (a.1.2.1 : Int).toNat) < (e2.config.voters.1 ++ e2.config.voters.2).length then
  some (.inl (((a.1.1.1, a.1.1.2.1, a.1.1.2.2.1, a.1.1.2.2.2.1, ()), (IntKind.i64.wrap (a.1.2.1 + 1)), ()), ((a.2.1.set a.1.1.1 (⟨e2.term_, e2.kind, e2.command, (⟨((((e2.config.voters.1 ++ e2.config.voters.2).set (a.1.1.2.1 + (a.1.2.1 : Int).toNat) r1.1).take e2.config.voters.1.length), (((e2.config.voters.1 ++ e2.config.voters.2).set (a.1.1.2.1 + (a.1.2.1 : Int).toNat) r1.1).drop e2.config.voters.1.length)), e2.config.old, e2.config.learners, e2.config.want⟩ : DConfigX)⟩ : DEntryX)), ())))
  else none)
  else none)
  else
  some (.inr ((), (a.2.1, ()))))
noncomputable def watershedkit_OverInts_2_e1 : LE CT Try.prog := ⟨2, [2, 3], [.one (.gv 0 798 4), .one (.int .i64)], [.gen 8 true], [⟨.exit 0, [], [], [.gen 8 true]⟩], watershedkit_OverInts_2_l1⟩
noncomputable def watershedkit_OverInts_2_lt : List (LE CT Try.prog) := [watershedkit_OverInts_2_e1]
theorem watershedkit_OverInts_2_e1_ok : LeOk watershedkit_OverInts_2_e1 (nthL (bodyOf Try.f69) 0) := fun A env h k z hk => le_ok (E := watershedkit_OverInts_2_e1) (orcOfX_ok HK0 watershedkit_OverInts_2_tb) (dr := watershedkit_OverInts_2_dr) (lps := lpsOf watershedkit_OverInts_2_lt) (no_loop (by kernel_rfl)) (fun a => by kernel_rfl) env h k z hk
noncomputable def watershedkit_OverInts_2 (x0 : Nat × Nat × Nat × Nat × Unit) (h0 : List (DEntryX)) : Option ((Unit) × ((List (DEntryX)) × Unit)) :=
  let y1 : Int := (if ((IntKind.i64.wrap (((x0.2.2.1 : Nat) : Int) + 12)) : Int) < ((x0.2.2.2.1 : Nat) : Int) then (IntKind.i64.wrap (((x0.2.2.1 : Nat) : Int) + 12)) else ((x0.2.2.2.1 : Nat) : Int))
  (if 0 ≤ (0 : Int) ∧ (0 : Int) ≤ (y1 : Int) ∧ (y1 : Int) ≤ ((x0.2.2.2.1 : Nat) : Int) ∧ ((0 : Int) = 0 ∨ (0 : Int) < ((x0.2.2.2.1 : Nat) : Int)) then
  (loopM watershedkit_OverInts_2_l1 (((x0.1, (x0.2.1 + (0 : Int).toNat), ((y1 : Int).toNat - (0 : Int).toNat), (x0.2.2.2.1 - (0 : Int).toNat), ()), 0, ()), (h0, ()))).bind fun b2 =>
  some ((), (b2.2.1, ()))
  else none)
noncomputable def watershedkit_OverInts_2_ce : CE CT Try.prog where
  f := 69
  args := [.one (.gv 0 798 4)]
  hs := [.gen 8 true]
  res := .tup []
  outs := [.gen 8 true]
  m := fun d dh => watershedkit_OverInts_2 d.1 dh.1
  ok := ce_ok mixedP Try.func69 (by kernel_rfl) (orcOfX_ok HK0 watershedkit_OverInts_2_tb) (dr := watershedkit_OverInts_2_dr) (lps := lpsOf watershedkit_OverInts_2_lt) (lps_fn (lps_of (n := 1) (by kernel_rfl) fun i hi => match i, hi with | 0, _ => lp_ok (E := watershedkit_OverInts_2_e1) (by kernel_rfl) watershedkit_OverInts_2_e1_ok)) (fun d dh => by kernel_rfl)

def watershedkit_OverInts_3_dr : Nat → Nat → DrA
  | _, _ => ⟨[], [], [], [], [], false, []⟩
noncomputable def watershedkit_OverInts_3_tb : List (CE CT Try.prog) := [watershedkit_mark_ce]
noncomputable def watershedkit_OverInts_3_l1 (a : ((Nat × Nat × Nat × Nat × Unit) × (Int) × Unit) × ((List (DEntryX)) × Unit)) : Option ((((Nat × Nat × Nat × Nat × Unit) × (Int) × Unit) × ((List (DEntryX)) × Unit)) ⊕ (((Unit) × ((List (DEntryX)) × Unit)))) :=
  (bif (decide ((a.1.2.1 : Int) < ((a.1.1.2.2.1 : Nat) : Int))) then
  (watershedkit_mark 2 a.1.2.1).bind fun r1 =>
  (if 0 ≤ (a.1.2.1 : Int) ∧ (a.1.2.1 : Int) < ((a.1.1.2.2.1 : Nat) : Int) then
  (a.2.1[a.1.1.1]?).bind fun e2 =>
  (if (a.1.1.2.1 + (a.1.2.1 : Int).toNat) < (e2.config.old.1 ++ e2.config.old.2).length then
  some (.inl (((a.1.1.1, a.1.1.2.1, a.1.1.2.2.1, a.1.1.2.2.2.1, ()), (IntKind.i64.wrap (a.1.2.1 + 1)), ()), ((a.2.1.set a.1.1.1 (⟨e2.term_, e2.kind, e2.command, (⟨e2.config.voters, ((((e2.config.old.1 ++ e2.config.old.2).set (a.1.1.2.1 + (a.1.2.1 : Int).toNat) r1.1).take e2.config.old.1.length), (((e2.config.old.1 ++ e2.config.old.2).set (a.1.1.2.1 + (a.1.2.1 : Int).toNat) r1.1).drop e2.config.old.1.length)), e2.config.learners, e2.config.want⟩ : DConfigX)⟩ : DEntryX)), ())))
  else none)
  else none)
  else
  some (.inr ((), (a.2.1, ()))))
noncomputable def watershedkit_OverInts_3_e1 : LE CT Try.prog := ⟨2, [2, 3], [.one (.gv 0 1054 4), .one (.int .i64)], [.gen 8 true], [⟨.exit 0, [], [], [.gen 8 true]⟩], watershedkit_OverInts_3_l1⟩
noncomputable def watershedkit_OverInts_3_lt : List (LE CT Try.prog) := [watershedkit_OverInts_3_e1]
theorem watershedkit_OverInts_3_e1_ok : LeOk watershedkit_OverInts_3_e1 (nthL (bodyOf Try.f69) 0) := fun A env h k z hk => le_ok (E := watershedkit_OverInts_3_e1) (orcOfX_ok HK0 watershedkit_OverInts_3_tb) (dr := watershedkit_OverInts_3_dr) (lps := lpsOf watershedkit_OverInts_3_lt) (no_loop (by kernel_rfl)) (fun a => by kernel_rfl) env h k z hk
noncomputable def watershedkit_OverInts_3 (x0 : Nat × Nat × Nat × Nat × Unit) (h0 : List (DEntryX)) : Option ((Unit) × ((List (DEntryX)) × Unit)) :=
  let y1 : Int := (if ((IntKind.i64.wrap (((x0.2.2.1 : Nat) : Int) + 12)) : Int) < ((x0.2.2.2.1 : Nat) : Int) then (IntKind.i64.wrap (((x0.2.2.1 : Nat) : Int) + 12)) else ((x0.2.2.2.1 : Nat) : Int))
  (if 0 ≤ (0 : Int) ∧ (0 : Int) ≤ (y1 : Int) ∧ (y1 : Int) ≤ ((x0.2.2.2.1 : Nat) : Int) ∧ ((0 : Int) = 0 ∨ (0 : Int) < ((x0.2.2.2.1 : Nat) : Int)) then
  (loopM watershedkit_OverInts_3_l1 (((x0.1, (x0.2.1 + (0 : Int).toNat), ((y1 : Int).toNat - (0 : Int).toNat), (x0.2.2.2.1 - (0 : Int).toNat), ()), 0, ()), (h0, ()))).bind fun b2 =>
  some ((), (b2.2.1, ()))
  else none)
noncomputable def watershedkit_OverInts_3_ce : CE CT Try.prog where
  f := 69
  args := [.one (.gv 0 1054 4)]
  hs := [.gen 8 true]
  res := .tup []
  outs := [.gen 8 true]
  m := fun d dh => watershedkit_OverInts_3 d.1 dh.1
  ok := ce_ok mixedP Try.func69 (by kernel_rfl) (orcOfX_ok HK0 watershedkit_OverInts_3_tb) (dr := watershedkit_OverInts_3_dr) (lps := lpsOf watershedkit_OverInts_3_lt) (lps_fn (lps_of (n := 1) (by kernel_rfl) fun i hi => match i, hi with | 0, _ => lp_ok (E := watershedkit_OverInts_3_e1) (by kernel_rfl) watershedkit_OverInts_3_e1_ok)) (fun d dh => by kernel_rfl)

def watershedkit_OverInts_4_dr : Nat → Nat → DrA
  | _, _ => ⟨[], [], [], [], [], false, []⟩
noncomputable def watershedkit_OverInts_4_tb : List (CE CT Try.prog) := [watershedkit_mark_ce]
noncomputable def watershedkit_OverInts_4_l1 (a : ((Nat × Nat × Nat × Nat × Unit) × (Int) × Unit) × ((List (DEntryX)) × Unit)) : Option ((((Nat × Nat × Nat × Nat × Unit) × (Int) × Unit) × ((List (DEntryX)) × Unit)) ⊕ (((Unit) × ((List (DEntryX)) × Unit)))) :=
  (bif (decide ((a.1.2.1 : Int) < ((a.1.1.2.2.1 : Nat) : Int))) then
  (watershedkit_mark 2 a.1.2.1).bind fun r1 =>
  (if 0 ≤ (a.1.2.1 : Int) ∧ (a.1.2.1 : Int) < ((a.1.1.2.2.1 : Nat) : Int) then
  (a.2.1[a.1.1.1]?).bind fun e2 =>
  (if (a.1.1.2.1 + (a.1.2.1 : Int).toNat) < (e2.config.learners.1 ++ e2.config.learners.2).length then
  some (.inl (((a.1.1.1, a.1.1.2.1, a.1.1.2.2.1, a.1.1.2.2.2.1, ()), (IntKind.i64.wrap (a.1.2.1 + 1)), ()), ((a.2.1.set a.1.1.1 (⟨e2.term_, e2.kind, e2.command, (⟨e2.config.voters, e2.config.old, ((((e2.config.learners.1 ++ e2.config.learners.2).set (a.1.1.2.1 + (a.1.2.1 : Int).toNat) r1.1).take e2.config.learners.1.length), (((e2.config.learners.1 ++ e2.config.learners.2).set (a.1.1.2.1 + (a.1.2.1 : Int).toNat) r1.1).drop e2.config.learners.1.length)), e2.config.want⟩ : DConfigX)⟩ : DEntryX)), ())))
  else none)
  else none)
  else
  some (.inr ((), (a.2.1, ()))))
noncomputable def watershedkit_OverInts_4_e1 : LE CT Try.prog := ⟨2, [2, 3], [.one (.gv 0 1310 4), .one (.int .i64)], [.gen 8 true], [⟨.exit 0, [], [], [.gen 8 true]⟩], watershedkit_OverInts_4_l1⟩
noncomputable def watershedkit_OverInts_4_lt : List (LE CT Try.prog) := [watershedkit_OverInts_4_e1]
theorem watershedkit_OverInts_4_e1_ok : LeOk watershedkit_OverInts_4_e1 (nthL (bodyOf Try.f69) 0) := fun A env h k z hk => le_ok (E := watershedkit_OverInts_4_e1) (orcOfX_ok HK0 watershedkit_OverInts_4_tb) (dr := watershedkit_OverInts_4_dr) (lps := lpsOf watershedkit_OverInts_4_lt) (no_loop (by kernel_rfl)) (fun a => by kernel_rfl) env h k z hk
noncomputable def watershedkit_OverInts_4 (x0 : Nat × Nat × Nat × Nat × Unit) (h0 : List (DEntryX)) : Option ((Unit) × ((List (DEntryX)) × Unit)) :=
  let y1 : Int := (if ((IntKind.i64.wrap (((x0.2.2.1 : Nat) : Int) + 12)) : Int) < ((x0.2.2.2.1 : Nat) : Int) then (IntKind.i64.wrap (((x0.2.2.1 : Nat) : Int) + 12)) else ((x0.2.2.2.1 : Nat) : Int))
  (if 0 ≤ (0 : Int) ∧ (0 : Int) ≤ (y1 : Int) ∧ (y1 : Int) ≤ ((x0.2.2.2.1 : Nat) : Int) ∧ ((0 : Int) = 0 ∨ (0 : Int) < ((x0.2.2.2.1 : Nat) : Int)) then
  (loopM watershedkit_OverInts_4_l1 (((x0.1, (x0.2.1 + (0 : Int).toNat), ((y1 : Int).toNat - (0 : Int).toNat), (x0.2.2.2.1 - (0 : Int).toNat), ()), 0, ()), (h0, ()))).bind fun b2 =>
  some ((), (b2.2.1, ()))
  else none)
noncomputable def watershedkit_OverInts_4_ce : CE CT Try.prog where
  f := 69
  args := [.one (.gv 0 1310 4)]
  hs := [.gen 8 true]
  res := .tup []
  outs := [.gen 8 true]
  m := fun d dh => watershedkit_OverInts_4 d.1 dh.1
  ok := ce_ok mixedP Try.func69 (by kernel_rfl) (orcOfX_ok HK0 watershedkit_OverInts_4_tb) (dr := watershedkit_OverInts_4_dr) (lps := lpsOf watershedkit_OverInts_4_lt) (lps_fn (lps_of (n := 1) (by kernel_rfl) fun i hi => match i, hi with | 0, _ => lp_ok (E := watershedkit_OverInts_4_e1) (by kernel_rfl) watershedkit_OverInts_4_e1_ok)) (fun d dh => by kernel_rfl)

def watershedkit_OverInts_5_dr : Nat → Nat → DrA
  | _, _ => ⟨[], [], [], [], [], false, []⟩
noncomputable def watershedkit_OverInts_5_tb : List (CE CT Try.prog) := [watershedkit_mark_ce]
noncomputable def watershedkit_OverInts_5_l1 (a : ((Nat × Nat × Nat × Nat × Unit) × (Int) × Unit) × ((List (DEntryX)) × Unit)) : Option ((((Nat × Nat × Nat × Nat × Unit) × (Int) × Unit) × ((List (DEntryX)) × Unit)) ⊕ (((Unit) × ((List (DEntryX)) × Unit)))) :=
  (bif (decide ((a.1.2.1 : Int) < ((a.1.1.2.2.1 : Nat) : Int))) then
  (watershedkit_mark 2 a.1.2.1).bind fun r1 =>
  (if 0 ≤ (a.1.2.1 : Int) ∧ (a.1.2.1 : Int) < ((a.1.1.2.2.1 : Nat) : Int) then
  (a.2.1[a.1.1.1]?).bind fun e2 =>
  (if (a.1.1.2.1 + (a.1.2.1 : Int).toNat) < (e2.config.want.1 ++ e2.config.want.2).length then
  some (.inl (((a.1.1.1, a.1.1.2.1, a.1.1.2.2.1, a.1.1.2.2.2.1, ()), (IntKind.i64.wrap (a.1.2.1 + 1)), ()), ((a.2.1.set a.1.1.1 (⟨e2.term_, e2.kind, e2.command, (⟨e2.config.voters, e2.config.old, e2.config.learners, ((((e2.config.want.1 ++ e2.config.want.2).set (a.1.1.2.1 + (a.1.2.1 : Int).toNat) r1.1).take e2.config.want.1.length), (((e2.config.want.1 ++ e2.config.want.2).set (a.1.1.2.1 + (a.1.2.1 : Int).toNat) r1.1).drop e2.config.want.1.length))⟩ : DConfigX)⟩ : DEntryX)), ())))
  else none)
  else none)
  else
  some (.inr ((), (a.2.1, ()))))
noncomputable def watershedkit_OverInts_5_e1 : LE CT Try.prog := ⟨2, [2, 3], [.one (.gv 0 1566 4), .one (.int .i64)], [.gen 8 true], [⟨.exit 0, [], [], [.gen 8 true]⟩], watershedkit_OverInts_5_l1⟩
noncomputable def watershedkit_OverInts_5_lt : List (LE CT Try.prog) := [watershedkit_OverInts_5_e1]
theorem watershedkit_OverInts_5_e1_ok : LeOk watershedkit_OverInts_5_e1 (nthL (bodyOf Try.f69) 0) := fun A env h k z hk => le_ok (E := watershedkit_OverInts_5_e1) (orcOfX_ok HK0 watershedkit_OverInts_5_tb) (dr := watershedkit_OverInts_5_dr) (lps := lpsOf watershedkit_OverInts_5_lt) (no_loop (by kernel_rfl)) (fun a => by kernel_rfl) env h k z hk
noncomputable def watershedkit_OverInts_5 (x0 : Nat × Nat × Nat × Nat × Unit) (h0 : List (DEntryX)) : Option ((Unit) × ((List (DEntryX)) × Unit)) :=
  let y1 : Int := (if ((IntKind.i64.wrap (((x0.2.2.1 : Nat) : Int) + 12)) : Int) < ((x0.2.2.2.1 : Nat) : Int) then (IntKind.i64.wrap (((x0.2.2.1 : Nat) : Int) + 12)) else ((x0.2.2.2.1 : Nat) : Int))
  (if 0 ≤ (0 : Int) ∧ (0 : Int) ≤ (y1 : Int) ∧ (y1 : Int) ≤ ((x0.2.2.2.1 : Nat) : Int) ∧ ((0 : Int) = 0 ∨ (0 : Int) < ((x0.2.2.2.1 : Nat) : Int)) then
  (loopM watershedkit_OverInts_5_l1 (((x0.1, (x0.2.1 + (0 : Int).toNat), ((y1 : Int).toNat - (0 : Int).toNat), (x0.2.2.2.1 - (0 : Int).toNat), ()), 0, ()), (h0, ()))).bind fun b2 =>
  some ((), (b2.2.1, ()))
  else none)
noncomputable def watershedkit_OverInts_5_ce : CE CT Try.prog where
  f := 69
  args := [.one (.gv 0 1566 4)]
  hs := [.gen 8 true]
  res := .tup []
  outs := [.gen 8 true]
  m := fun d dh => watershedkit_OverInts_5 d.1 dh.1
  ok := ce_ok mixedP Try.func69 (by kernel_rfl) (orcOfX_ok HK0 watershedkit_OverInts_5_tb) (dr := watershedkit_OverInts_5_dr) (lps := lpsOf watershedkit_OverInts_5_lt) (lps_fn (lps_of (n := 1) (by kernel_rfl) fun i hi => match i, hi with | 0, _ => lp_ok (E := watershedkit_OverInts_5_e1) (by kernel_rfl) watershedkit_OverInts_5_e1_ok)) (fun d dh => by kernel_rfl)

def watershedkit_OverConfig_2_dr : Nat → Nat → DrA
  | _, _ => ⟨[], [], [], [], [], false, []⟩
noncomputable def watershedkit_OverConfig_2_tb : List (CE CT Try.prog) := [watershedkit_OverInts_2_ce, watershedkit_OverInts_3_ce, watershedkit_OverInts_4_ce, watershedkit_OverInts_5_ce]
noncomputable def watershedkit_OverConfig_2_lt : List (LE CT Try.prog) := []
noncomputable def watershedkit_OverConfig_2 (x0 : (Nat × Nat × Nat × Nat × Unit) × (Nat × Nat × Nat × Nat × Unit) × (Nat × Nat × Nat × Nat × Unit) × (Nat × Nat × Nat × Nat × Unit) × Unit) (h0 : List (DEntryX)) : Option ((Unit) × ((List (DEntryX)) × Unit)) :=
  (watershedkit_OverInts_2 (x0.1.1, x0.1.2.1, x0.1.2.2.1, x0.1.2.2.2.1, ()) h0).bind fun r1 =>
  (watershedkit_OverInts_3 (x0.2.1.1, x0.2.1.2.1, x0.2.1.2.2.1, x0.2.1.2.2.2.1, ()) r1.2.1).bind fun r2 =>
  (watershedkit_OverInts_4 (x0.2.2.1.1, x0.2.2.1.2.1, x0.2.2.1.2.2.1, x0.2.2.1.2.2.2.1, ()) r2.2.1).bind fun r3 =>
  (watershedkit_OverInts_5 (x0.2.2.2.1.1, x0.2.2.2.1.2.1, x0.2.2.2.1.2.2.1, x0.2.2.2.1.2.2.2.1, ()) r3.2.1).bind fun r4 =>
  some ((), (r4.2.1, ()))
noncomputable def watershedkit_OverConfig_2_ce : CE CT Try.prog where
  f := 61
  args := [.agg [.gv 0 798 4, .gv 0 1054 4, .gv 0 1310 4, .gv 0 1566 4]]
  hs := [.gen 8 true]
  res := .tup []
  outs := [.gen 8 true]
  m := fun d dh => watershedkit_OverConfig_2 d.1 dh.1
  ok := ce_ok mixedP Try.func61 (by kernel_rfl) (orcOf_ok watershedkit_OverConfig_2_tb) (dr := watershedkit_OverConfig_2_dr) (lps := lpsOf watershedkit_OverConfig_2_lt) (lps_fn (no_loop (by kernel_rfl))) (fun d dh => by kernel_rfl)

def watershedkit_OverEntry_dr : Nat → Nat → DrA
  | _, _ => ⟨[], [], [], [], [], false, []⟩
noncomputable def watershedkit_OverEntry_tb : List (CE CT Try.prog) := [watershedkit_OverBytes_2_ce, watershedkit_OverConfig_2_ce]
noncomputable def watershedkit_OverEntry_lt : List (LE CT Try.prog) := []
noncomputable def watershedkit_OverEntry (x0 : (Int) × (Int) × (Nat × Nat × Nat × Nat × Unit) × (Nat × Nat × Nat × Nat × Unit) × (Nat × Nat × Nat × Nat × Unit) × (Nat × Nat × Nat × Nat × Unit) × (Nat × Nat × Nat × Nat × Unit) × Unit) (h0 : List (DEntryX)) : Option ((Unit) × ((List (DEntryX)) × Unit)) :=
  (watershedkit_OverBytes_2 (x0.2.2.1.1, x0.2.2.1.2.1, x0.2.2.1.2.2.1, x0.2.2.1.2.2.2.1, ()) h0).bind fun r1 =>
  (watershedkit_OverConfig_2 ((x0.2.2.2.1.1, x0.2.2.2.1.2.1, x0.2.2.2.1.2.2.1, x0.2.2.2.1.2.2.2.1, ()), (x0.2.2.2.2.1.1, x0.2.2.2.2.1.2.1, x0.2.2.2.2.1.2.2.1, x0.2.2.2.2.1.2.2.2.1, ()), (x0.2.2.2.2.2.1.1, x0.2.2.2.2.2.1.2.1, x0.2.2.2.2.2.1.2.2.1, x0.2.2.2.2.2.1.2.2.2.1, ()), (x0.2.2.2.2.2.2.1.1, x0.2.2.2.2.2.2.1.2.1, x0.2.2.2.2.2.2.1.2.2.1, x0.2.2.2.2.2.2.1.2.2.2.1, ()), ()) r1.2.1).bind fun r2 =>
  some ((), (r2.2.1, ()))
noncomputable def watershedkit_OverEntry_ce : CE CT Try.prog where
  f := 60
  args := [.agg [.int .i64, .int .u8, .gv 0 542 4, .gv 0 798 4, .gv 0 1054 4, .gv 0 1310 4, .gv 0 1566 4]]
  hs := [.gen 8 true]
  res := .tup []
  outs := [.gen 8 true]
  m := fun d dh => watershedkit_OverEntry d.1 dh.1
  ok := ce_ok mixedP Try.func60 (by kernel_rfl) (orcOf_ok watershedkit_OverEntry_tb) (dr := watershedkit_OverEntry_dr) (lps := lpsOf watershedkit_OverEntry_lt) (lps_fn (no_loop (by kernel_rfl))) (fun d dh => by kernel_rfl)

def watershedkit_OverEntries_2_dr : Nat → Nat → DrA
  | _, _ => ⟨[], [], [], [], [], false, []⟩
noncomputable def watershedkit_OverEntries_2_tb : List (CE CT Try.prog) := [watershedkit_OverEntry_ce, watershedkit_markEntry_ce]
noncomputable def watershedkit_OverEntries_2_l1 (a : ((Nat × Nat × Nat × Unit) × (Int) × Unit) × ((List (DEntryX)) × Unit)) : Option ((((Nat × Nat × Nat × Unit) × (Int) × Unit) × ((List (DEntryX)) × Unit)) ⊕ ((((Nat × Nat × Nat × Unit) × Unit) × ((List (DEntryX)) × Unit)))) :=
  (bif (decide ((a.1.2.1 : Int) < ((a.1.1.2.1 : Nat) : Int))) then
  (if 0 ≤ (a.1.2.1 : Int) ∧ (a.1.2.1 : Int) < ((a.1.1.2.1 : Nat) : Int) then
  (a.2.1[(a.1.1.1 + (a.1.2.1 : Int).toNat)]?).bind fun e1 =>
  (watershedkit_OverEntry (e1.term_, e1.kind, ((a.1.1.1 + (a.1.2.1 : Int).toNat), 0, e1.command.1.length, (e1.command.1.length + e1.command.2.length), ()), ((a.1.1.1 + (a.1.2.1 : Int).toNat), 0, e1.config.voters.1.length, (e1.config.voters.1.length + e1.config.voters.2.length), ()), ((a.1.1.1 + (a.1.2.1 : Int).toNat), 0, e1.config.old.1.length, (e1.config.old.1.length + e1.config.old.2.length), ()), ((a.1.1.1 + (a.1.2.1 : Int).toNat), 0, e1.config.learners.1.length, (e1.config.learners.1.length + e1.config.learners.2.length), ()), ((a.1.1.1 + (a.1.2.1 : Int).toNat), 0, e1.config.want.1.length, (e1.config.want.1.length + e1.config.want.2.length), ()), ()) a.2.1).bind fun r2 =>
  some (.inl (((a.1.1.1, a.1.1.2.1, a.1.1.2.2.1, ()), (IntKind.i64.wrap (a.1.2.1 + 1)), ()), (r2.2.1, ())))
  else none)
  else
  some (.inr (((a.1.1.1, a.1.1.2.1, a.1.1.2.2.1, ()), ()), (a.2.1, ()))))
noncomputable def watershedkit_OverEntries_2_e1 : LE CT Try.prog := ⟨1, [0, 2], [.one (.gv 0 28 3), .one (.int .i64)], [.gen 8 true], [⟨.exit 0, [0], [.one (.gv 0 28 3)], [.gen 8 true]⟩], watershedkit_OverEntries_2_l1⟩
noncomputable def watershedkit_OverEntries_2_l2 (a : ((Nat × Nat × Nat × Unit) × (Int) × Unit) × ((List (DEntryX)) × Unit)) : Option ((((Nat × Nat × Nat × Unit) × (Int) × Unit) × ((List (DEntryX)) × Unit)) ⊕ (((Unit) × ((List (DEntryX)) × Unit)))) :=
  (bif (decide ((a.1.2.1 : Int) < ((a.1.1.2.1 : Nat) : Int))) then
  (watershedkit_markEntry 2 a.1.2.1).bind fun r1 =>
  (if 0 ≤ (a.1.2.1 : Int) ∧ (a.1.2.1 : Int) < ((a.1.1.2.1 : Nat) : Int) then
  (if (a.1.1.1 + (a.1.2.1 : Int).toNat) < a.2.1.length then
  some (.inl (((a.1.1.1, a.1.1.2.1, a.1.1.2.2.1, ()), (IntKind.i64.wrap (a.1.2.1 + 1)), ()), ((a.2.1.set (a.1.1.1 + (a.1.2.1 : Int).toNat) (⟨r1.1.1, r1.1.2.1, ([], []), (⟨([], []), ([], []), ([], []), ([], [])⟩ : DConfigX)⟩ : DEntryX)), ())))
  else none)
  else none)
  else
  some (.inr ((), (a.2.1, ()))))
noncomputable def watershedkit_OverEntries_2_e2 : LE CT Try.prog := ⟨6, [3, 4], [.one (.gv 0 28 3), .one (.int .i64)], [.gen 8 true], [⟨.exit 2, [], [], [.gen 8 true]⟩], watershedkit_OverEntries_2_l2⟩
noncomputable def watershedkit_OverEntries_2_lt : List (LE CT Try.prog) := [watershedkit_OverEntries_2_e1, watershedkit_OverEntries_2_e2]
theorem watershedkit_OverEntries_2_e1_ok : LeOk watershedkit_OverEntries_2_e1 (nthL (bodyOf Try.f40) 0) := fun A env h k z hk => le_ok (E := watershedkit_OverEntries_2_e1) (orcOfX_ok HK0 watershedkit_OverEntries_2_tb) (dr := watershedkit_OverEntries_2_dr) (lps := lpsOf watershedkit_OverEntries_2_lt) (no_loop (by kernel_rfl)) (fun a => by kernel_rfl) env h k z hk
theorem watershedkit_OverEntries_2_e2_ok : LeOk watershedkit_OverEntries_2_e2 (nthL (bodyOf Try.f40) 1) := fun A env h k z hk => le_ok (E := watershedkit_OverEntries_2_e2) (orcOfX_ok HK0 watershedkit_OverEntries_2_tb) (dr := watershedkit_OverEntries_2_dr) (lps := lpsOf watershedkit_OverEntries_2_lt) (no_loop (by kernel_rfl)) (fun a => by kernel_rfl) env h k z hk
noncomputable def watershedkit_OverEntries_2 (x0 : Nat × Nat × Nat × Unit) (h0 : List (DEntryX)) : Option ((Unit) × ((List (DEntryX)) × Unit)) :=
  (loopM watershedkit_OverEntries_2_l1 (((x0.1, x0.2.1, x0.2.2.1, ()), 0, ()), (h0, ()))).bind fun b1 =>
  let y2 : Int := (if ((IntKind.i64.wrap (((b1.1.1.2.1 : Nat) : Int) + 12)) : Int) < ((b1.1.1.2.2.1 - b1.1.1.1 : Nat) : Int) then (IntKind.i64.wrap (((b1.1.1.2.1 : Nat) : Int) + 12)) else ((b1.1.1.2.2.1 - b1.1.1.1 : Nat) : Int))
  (if 0 ≤ (0 : Int) ∧ (0 : Int) ≤ (y2 : Int) ∧ (y2 : Int) ≤ ((b1.1.1.2.2.1 - b1.1.1.1 : Nat) : Int) ∧ (0 : Int) < ((b1.1.1.2.2.1 - b1.1.1.1 : Nat) : Int) then
  (loopM watershedkit_OverEntries_2_l2 ((((b1.1.1.1 + (0 : Int).toNat), ((y2 : Int).toNat - (0 : Int).toNat), b1.1.1.2.2.1, ()), 0, ()), (b1.2.1, ()))).bind fun b3 =>
  some ((), (b3.2.1, ()))
  else none)
noncomputable def watershedkit_OverEntries_2_ce : CE CT Try.prog where
  f := 40
  args := [.one (.gv 0 28 3)]
  hs := [.gen 8 true]
  res := .tup []
  outs := [.gen 8 true]
  m := fun d dh => watershedkit_OverEntries_2 d.1 dh.1
  ok := ce_ok mixedP Try.func40 (by kernel_rfl) (orcOfX_ok HK0 watershedkit_OverEntries_2_tb) (dr := watershedkit_OverEntries_2_dr) (lps := lpsOf watershedkit_OverEntries_2_lt) (lps_fn (lps_of (n := 2) (by kernel_rfl) fun i hi => match i, hi with | 0, _ => lp_ok (E := watershedkit_OverEntries_2_e1) (by kernel_rfl) watershedkit_OverEntries_2_e1_ok | 1, _ => lp_ok (E := watershedkit_OverEntries_2_e2) (by kernel_rfl) watershedkit_OverEntries_2_e2_ok)) (fun d dh => by kernel_rfl)

def watershedkit_OverInts_6_dr : Nat → Nat → DrA
  | _, _ => ⟨[], [], [], [], [], false, []⟩
noncomputable def watershedkit_OverInts_6_tb : List (CE CT Try.prog) := [watershedkit_mark_ce]
noncomputable def watershedkit_OverInts_6_l1 (a : ((Nat × Nat × Nat) × (Int) × Unit) × ((List (Int)) × Unit)) : Option ((((Nat × Nat × Nat) × (Int) × Unit) × ((List (Int)) × Unit)) ⊕ (((Unit) × ((List (Int)) × Unit)))) :=
  (bif (decide ((a.1.2.1 : Int) < ((a.1.1.2.1 : Nat) : Int))) then
  (watershedkit_mark 2 a.1.2.1).bind fun r1 =>
  (if 0 ≤ (a.1.2.1 : Int) ∧ (a.1.2.1 : Int) < ((a.1.1.2.1 : Nat) : Int) then
  (a.2.1[(a.1.1.1 + (a.1.2.1 : Int).toNat)]?).bind fun e2 =>
  some (.inl (((a.1.1.1, a.1.1.2.1, a.1.1.2.2), (IntKind.i64.wrap (a.1.2.1 + 1)), ()), ((a.2.1.set (a.1.1.1 + (a.1.2.1 : Int).toNat) r1.1), ())))
  else none)
  else
  some (.inr ((), (a.2.1, ()))))
noncomputable def watershedkit_OverInts_6_e1 : LE CT Try.prog := ⟨2, [2, 3], [.one (.as 0 0), .one (.int .i64)], [.arr 3 0 true], [⟨.exit 0, [], [], [.arr 3 0 true]⟩], watershedkit_OverInts_6_l1⟩
noncomputable def watershedkit_OverInts_6_lt : List (LE CT Try.prog) := [watershedkit_OverInts_6_e1]
theorem watershedkit_OverInts_6_e1_ok : LeOk watershedkit_OverInts_6_e1 (nthL (bodyOf Try.f69) 0) := fun A env h k z hk => le_ok (E := watershedkit_OverInts_6_e1) (orcOf_ok watershedkit_OverInts_6_tb) (dr := watershedkit_OverInts_6_dr) (lps := lpsOf watershedkit_OverInts_6_lt) (no_loop (by kernel_rfl)) (fun a => by kernel_rfl) env h k z hk
noncomputable def watershedkit_OverInts_6 (x0 : Nat × Nat × Nat) (h0 : List (Int)) : Option ((Unit) × ((List (Int)) × Unit)) :=
  let y1 : Int := (if ((IntKind.i64.wrap (((x0.2.1 : Nat) : Int) + 12)) : Int) < ((x0.2.2 : Nat) : Int) then (IntKind.i64.wrap (((x0.2.1 : Nat) : Int) + 12)) else ((x0.2.2 : Nat) : Int))
  (if 0 ≤ ((0 : Int) : Int) ∧ ((0 : Int) : Int) ≤ (y1 : Int) ∧ (y1 : Int) ≤ ((x0.2.2 : Nat) : Int) ∧ (y1 : Int) ≤ 140737488355328 then
  (loopM watershedkit_OverInts_6_l1 ((((x0.1 + (0 : Int).toNat), ((y1 : Int).toNat - (0 : Int).toNat), (x0.2.2 - (0 : Int).toNat)), 0, ()), (h0, ()))).bind fun b2 =>
  some ((), (b2.2.1, ()))
  else none)
noncomputable def watershedkit_OverInts_6_ce : CE CT Try.prog where
  f := 69
  args := [.one (.as 0 0)]
  hs := [.arr 3 0 true]
  res := .tup []
  outs := [.arr 3 0 true]
  m := fun d dh => watershedkit_OverInts_6 d.1 dh.1
  ok := ce_ok mixedP Try.func69 (by kernel_rfl) (orcOf_ok watershedkit_OverInts_6_tb) (dr := watershedkit_OverInts_6_dr) (lps := lpsOf watershedkit_OverInts_6_lt) (lps_fn (lps_of (n := 1) (by kernel_rfl) fun i hi => match i, hi with | 0, _ => lp_ok (E := watershedkit_OverInts_6_e1) (by kernel_rfl) watershedkit_OverInts_6_e1_ok)) (fun d dh => by kernel_rfl)

def watershedkit_OverConfig_3_dr : Nat → Nat → DrA
  | _, _ => ⟨[], [], [], [], [], false, []⟩
noncomputable def watershedkit_OverConfig_3_tb : List (CE CT Try.prog) := [watershedkit_OverInts_6_ce]
noncomputable def watershedkit_OverConfig_3_lt : List (LE CT Try.prog) := []
noncomputable def watershedkit_OverConfig_3 (x0 : (Nat × Nat × Nat) × (Nat × Nat × Nat) × (Nat × Nat × Nat) × (Nat × Nat × Nat) × Unit) (h0 : List (Int)) (h1 : List (Int)) (h2 : List (Int)) (h3 : List (Int)) : Option ((Unit) × ((List (Int)) × (List (Int)) × (List (Int)) × (List (Int)) × Unit)) :=
  (watershedkit_OverInts_6 (x0.1.1, x0.1.2.1, x0.1.2.2) h0).bind fun r1 =>
  (watershedkit_OverInts_6 (x0.2.1.1, x0.2.1.2.1, x0.2.1.2.2) h1).bind fun r2 =>
  (watershedkit_OverInts_6 (x0.2.2.1.1, x0.2.2.1.2.1, x0.2.2.1.2.2) h2).bind fun r3 =>
  (watershedkit_OverInts_6 (x0.2.2.2.1.1, x0.2.2.2.1.2.1, x0.2.2.2.1.2.2) h3).bind fun r4 =>
  some ((), (r1.2.1, r2.2.1, r3.2.1, r4.2.1, ()))
noncomputable def watershedkit_OverConfig_3_ce : CE CT Try.prog where
  f := 61
  args := [.agg [.as 0 0, .as 0 1, .as 0 2, .as 0 3]]
  hs := [.arr 3 0 true, .arr 3 0 true, .arr 3 0 true, .arr 3 0 true]
  res := .tup []
  outs := [.arr 3 0 true, .arr 3 0 true, .arr 3 0 true, .arr 3 0 true]
  m := fun d dh => watershedkit_OverConfig_3 d.1 dh.1 dh.2.1 dh.2.2.1 dh.2.2.2.1
  ok := ce_ok mixedP Try.func61 (by kernel_rfl) (orcOf_ok watershedkit_OverConfig_3_tb) (dr := watershedkit_OverConfig_3_dr) (lps := lpsOf watershedkit_OverConfig_3_lt) (lps_fn (no_loop (by kernel_rfl))) (fun d dh => by kernel_rfl)

def watershedkit_OverBase_2_dr : Nat → Nat → DrA
  | _, _ => ⟨[], [], [], [], [], false, []⟩
noncomputable def watershedkit_OverBase_2_tb : List (CE CT Try.prog) := [watershedkit_OverConfig_3_ce]
noncomputable def watershedkit_OverBase_2_lt : List (LE CT Try.prog) := []
noncomputable def watershedkit_OverBase_2 (x0 : (Int) × (Int) × (Nat × Nat × Nat) × (Nat × Nat × Nat) × (Nat × Nat × Nat) × (Nat × Nat × Nat) × Unit) (h0 : List (Int)) (h1 : List (Int)) (h2 : List (Int)) (h3 : List (Int)) : Option ((Unit) × ((List (Int)) × (List (Int)) × (List (Int)) × (List (Int)) × Unit)) :=
  (watershedkit_OverConfig_3 ((x0.2.2.1.1, x0.2.2.1.2.1, x0.2.2.1.2.2), (x0.2.2.2.1.1, x0.2.2.2.1.2.1, x0.2.2.2.1.2.2), (x0.2.2.2.2.1.1, x0.2.2.2.2.1.2.1, x0.2.2.2.2.1.2.2), (x0.2.2.2.2.2.1.1, x0.2.2.2.2.2.1.2.1, x0.2.2.2.2.2.1.2.2), ()) h0 h1 h2 h3).bind fun r1 =>
  some ((), (r1.2.1, r1.2.2.1, r1.2.2.2.1, r1.2.2.2.2.1, ()))
noncomputable def watershedkit_OverBase_2_ce : CE CT Try.prog where
  f := 41
  args := [.agg [.int .i64, .int .i64, .as 0 0, .as 0 1, .as 0 2, .as 0 3]]
  hs := [.arr 3 0 true, .arr 3 0 true, .arr 3 0 true, .arr 3 0 true]
  res := .tup []
  outs := [.arr 3 0 true, .arr 3 0 true, .arr 3 0 true, .arr 3 0 true]
  m := fun d dh => watershedkit_OverBase_2 d.1 dh.1 dh.2.1 dh.2.2.1 dh.2.2.2.1
  ok := ce_ok mixedP Try.func41 (by kernel_rfl) (orcOf_ok watershedkit_OverBase_2_tb) (dr := watershedkit_OverBase_2_dr) (lps := lpsOf watershedkit_OverBase_2_lt) (lps_fn (no_loop (by kernel_rfl))) (fun d dh => by kernel_rfl)

def watershedkit_OverBytes_3_dr : Nat → Nat → DrA
  | _, _ => ⟨[], [], [], [], [], false, []⟩
noncomputable def watershedkit_OverBytes_3_tb : List (CE CT Try.prog) := [watershedkit_markByte_ce]
noncomputable def watershedkit_OverBytes_3_l1 (a : ((Nat × Nat × Nat) × (Int) × Unit) × ((List (UInt8)) × Unit)) : Option ((((Nat × Nat × Nat) × (Int) × Unit) × ((List (UInt8)) × Unit)) ⊕ (((Unit) × ((List (UInt8)) × Unit)))) :=
  (bif (decide ((a.1.2.1 : Int) < ((a.1.1.2.1 : Nat) : Int))) then
  (watershedkit_markByte 2 a.1.2.1).bind fun r1 =>
  (if 0 ≤ (a.1.2.1 : Int) ∧ (a.1.2.1 : Int) < ((a.1.1.2.1 : Nat) : Int) then
  (a.2.1[(a.1.1.1 + (a.1.2.1 : Int).toNat)]?).bind fun e2 =>
  (b8 r1.1).bind fun u3 =>
  some (.inl (((a.1.1.1, a.1.1.2.1, a.1.1.2.2), (IntKind.i64.wrap (a.1.2.1 + 1)), ()), ((a.2.1.set (a.1.1.1 + (a.1.2.1 : Int).toNat) u3), ())))
  else none)
  else
  some (.inr ((), (a.2.1, ()))))
noncomputable def watershedkit_OverBytes_3_e1 : LE CT Try.prog := ⟨2, [2, 3], [.one (.as 1 0), .one (.int .i64)], [.arr 5 1 true], [⟨.exit 0, [], [], [.arr 5 1 true]⟩], watershedkit_OverBytes_3_l1⟩
noncomputable def watershedkit_OverBytes_3_lt : List (LE CT Try.prog) := [watershedkit_OverBytes_3_e1]
theorem watershedkit_OverBytes_3_e1_ok : LeOk watershedkit_OverBytes_3_e1 (nthL (bodyOf Try.f42) 0) := fun A env h k z hk => le_ok (E := watershedkit_OverBytes_3_e1) (orcOf_ok watershedkit_OverBytes_3_tb) (dr := watershedkit_OverBytes_3_dr) (lps := lpsOf watershedkit_OverBytes_3_lt) (no_loop (by kernel_rfl)) (fun a => by kernel_rfl) env h k z hk
noncomputable def watershedkit_OverBytes_3 (x0 : Nat × Nat × Nat) (h0 : List (UInt8)) : Option ((Unit) × ((List (UInt8)) × Unit)) :=
  let y1 : Int := (if ((IntKind.i64.wrap (((x0.2.1 : Nat) : Int) + 12)) : Int) < ((x0.2.2 : Nat) : Int) then (IntKind.i64.wrap (((x0.2.1 : Nat) : Int) + 12)) else ((x0.2.2 : Nat) : Int))
  (if 0 ≤ ((0 : Int) : Int) ∧ ((0 : Int) : Int) ≤ (y1 : Int) ∧ (y1 : Int) ≤ ((x0.2.2 : Nat) : Int) ∧ (y1 : Int) ≤ 140737488355328 then
  (loopM watershedkit_OverBytes_3_l1 ((((x0.1 + (0 : Int).toNat), ((y1 : Int).toNat - (0 : Int).toNat), (x0.2.2 - (0 : Int).toNat)), 0, ()), (h0, ()))).bind fun b2 =>
  some ((), (b2.2.1, ()))
  else none)
noncomputable def watershedkit_OverBytes_3_ce : CE CT Try.prog where
  f := 42
  args := [.one (.as 1 0)]
  hs := [.arr 5 1 true]
  res := .tup []
  outs := [.arr 5 1 true]
  m := fun d dh => watershedkit_OverBytes_3 d.1 dh.1
  ok := ce_ok mixedP Try.func42 (by kernel_rfl) (orcOf_ok watershedkit_OverBytes_3_tb) (dr := watershedkit_OverBytes_3_dr) (lps := lpsOf watershedkit_OverBytes_3_lt) (lps_fn (lps_of (n := 1) (by kernel_rfl) fun i hi => match i, hi with | 0, _ => lp_ok (E := watershedkit_OverBytes_3_e1) (by kernel_rfl) watershedkit_OverBytes_3_e1_ok)) (fun d dh => by kernel_rfl)

def watershedkit_OverLetter_2_dr : Nat → Nat → DrA
  | _, _ => ⟨[], [], [], [], [], false, []⟩
noncomputable def watershedkit_OverLetter_2_tb : List (CE CT Try.prog) := [watershedkit_OverEntries_2_ce, watershedkit_OverBase_2_ce, watershedkit_OverBytes_3_ce]
noncomputable def watershedkit_OverLetter_2_lt : List (LE CT Try.prog) := []
noncomputable def watershedkit_OverLetter_2 (x0 : (Int) × (Int) × (Int) × (Int) × (Int) × (Int) × (Int) × (Int) × (Bool) × (Nat × Nat × Nat × Unit) × (Int) × (Int) × (Nat × Nat × Nat) × (Nat × Nat × Nat) × (Nat × Nat × Nat) × (Nat × Nat × Nat) × (Int) × (Int) × (Int) × (Nat × Nat × Nat) × Unit) (h0 : List (DEntryX)) (h1 : List (Int)) (h2 : List (Int)) (h3 : List (Int)) (h4 : List (Int)) (h5 : List (UInt8)) : Option ((Unit) × ((List (DEntryX)) × (List (Int)) × (List (Int)) × (List (Int)) × (List (Int)) × (List (UInt8)) × Unit)) :=
  (watershedkit_OverEntries_2 (x0.2.2.2.2.2.2.2.2.2.1.1, x0.2.2.2.2.2.2.2.2.2.1.2.1, x0.2.2.2.2.2.2.2.2.2.1.2.2.1, ()) h0).bind fun r1 =>
  (watershedkit_OverBase_2 (x0.2.2.2.2.2.2.2.2.2.2.1, x0.2.2.2.2.2.2.2.2.2.2.2.1, (x0.2.2.2.2.2.2.2.2.2.2.2.2.1.1, x0.2.2.2.2.2.2.2.2.2.2.2.2.1.2.1, x0.2.2.2.2.2.2.2.2.2.2.2.2.1.2.2), (x0.2.2.2.2.2.2.2.2.2.2.2.2.2.1.1, x0.2.2.2.2.2.2.2.2.2.2.2.2.2.1.2.1, x0.2.2.2.2.2.2.2.2.2.2.2.2.2.1.2.2), (x0.2.2.2.2.2.2.2.2.2.2.2.2.2.2.1.1, x0.2.2.2.2.2.2.2.2.2.2.2.2.2.2.1.2.1, x0.2.2.2.2.2.2.2.2.2.2.2.2.2.2.1.2.2), (x0.2.2.2.2.2.2.2.2.2.2.2.2.2.2.2.1.1, x0.2.2.2.2.2.2.2.2.2.2.2.2.2.2.2.1.2.1, x0.2.2.2.2.2.2.2.2.2.2.2.2.2.2.2.1.2.2), ()) h1 h2 h3 h4).bind fun r2 =>
  (watershedkit_OverBytes_3 (x0.2.2.2.2.2.2.2.2.2.2.2.2.2.2.2.2.2.2.2.1.1, x0.2.2.2.2.2.2.2.2.2.2.2.2.2.2.2.2.2.2.2.1.2.1, x0.2.2.2.2.2.2.2.2.2.2.2.2.2.2.2.2.2.2.2.1.2.2) h5).bind fun r3 =>
  some ((), (r1.2.1, r2.2.1, r2.2.2.1, r2.2.2.2.1, r2.2.2.2.2.1, r3.2.1, ()))
noncomputable def watershedkit_OverLetter_2_ce : CE CT Try.prog where
  f := 15
  args := [.agg [.int .u8, .int .i64, .int .i64, .int .i64, .int .i64, .int .i64, .int .i64, .int .i64, .bool, .gv 0 28 3, .int .i64, .int .i64, .as 0 1, .as 0 2, .as 0 3, .as 0 4, .int .i64, .int .i64, .int .i64, .as 1 5]]
  hs := [.gen 8 true, .arr 3 0 true, .arr 3 0 true, .arr 3 0 true, .arr 3 0 true, .arr 5 1 true]
  res := .tup []
  outs := [.gen 8 true, .arr 3 0 true, .arr 3 0 true, .arr 3 0 true, .arr 3 0 true, .arr 5 1 true]
  m := fun d dh => watershedkit_OverLetter_2 d.1 dh.1 dh.2.1 dh.2.2.1 dh.2.2.2.1 dh.2.2.2.2.1 dh.2.2.2.2.2.1
  ok := ce_ok mixedP Try.func15 (by kernel_rfl) (orcOf_ok watershedkit_OverLetter_2_tb) (dr := watershedkit_OverLetter_2_dr) (lps := lpsOf watershedkit_OverLetter_2_lt) (lps_fn (no_loop (by kernel_rfl))) (fun d dh => by kernel_rfl)

def watershedkit_OverImage_dr : Nat → Nat → DrA
  | _, _ => ⟨[], [], [], [], [], false, []⟩
noncomputable def watershedkit_OverImage_tb : List (CE CT Try.prog) := [watershedkit_OverBase_ce, watershedkit_OverBytes_v_ce]
noncomputable def watershedkit_OverImage_lt : List (LE CT Try.prog) := []
noncomputable def watershedkit_OverImage (x0 : (Int) × (Int) × (Nat) × (Nat) × (Nat) × (Nat) × (Nat) × Unit) (h0 : List (Int)) (h1 : List (Int)) (h2 : List (Int)) (h3 : List (Int)) (h4 : List (UInt8)) : Option ((Unit) × ((List (Int)) × (List (Int)) × (List (Int)) × (List (Int)) × (List (UInt8)) × Unit)) :=
  (watershedkit_OverBase (x0.1, x0.2.1, x0.2.2.1, x0.2.2.2.1, x0.2.2.2.2.1, x0.2.2.2.2.2.1, ()) h0 h1 h2 h3).bind fun r1 =>
  (watershedkit_OverBytes_v x0.2.2.2.2.2.2.1 h4).bind fun r2 =>
  some ((), (r1.2.1, r1.2.2.1, r1.2.2.2.1, r1.2.2.2.2.1, r2.2.1, ()))
noncomputable def watershedkit_OverImage_ce : CE CT Try.prog where
  f := 25
  args := [.agg [.int .i64, .int .i64, .asz 0 0, .asz 0 1, .asz 0 2, .asz 0 3, .asz 1 4]]
  hs := [.arr 3 0 true, .arr 3 0 true, .arr 3 0 true, .arr 3 0 true, .arr 5 1 true]
  res := .tup []
  outs := [.arr 3 0 true, .arr 3 0 true, .arr 3 0 true, .arr 3 0 true, .arr 5 1 true]
  m := fun d dh => watershedkit_OverImage d.1 dh.1 dh.2.1 dh.2.2.1 dh.2.2.2.1 dh.2.2.2.2.1
  ok := ce_ok mixedP Try.func25 (by kernel_rfl) (orcOf_ok watershedkit_OverImage_tb) (dr := watershedkit_OverImage_dr) (lps := lpsOf watershedkit_OverImage_lt) (lps_fn (no_loop (by kernel_rfl))) (fun d dh => by kernel_rfl)

def ferry_Drop_2_dr : Nat → Nat → DrA
  | _, _ => ⟨[], [], [], [], [], false, []⟩
noncomputable def ferry_Drop_2_tb : List (CE CT Try.prog) := []
noncomputable def ferry_Drop_2_lt : List (LE CT Try.prog) := []
noncomputable def ferry_Drop_2  : Option ((Unit) × (Unit)) :=
  some ((), ())
noncomputable def ferry_Drop_2_ce : CE CT Try.prog where
  f := 20
  args := [.one (.nilptr)]
  hs := []
  res := .tup []
  outs := []
  m := fun d dh => ferry_Drop_2
  ok := ce_ok mixedP Try.func20 (by kernel_rfl) (orcOf_ok ferry_Drop_2_tb) (dr := ferry_Drop_2_dr) (lps := lpsOf ferry_Drop_2_lt) (lps_fn (no_loop (by kernel_rfl))) (fun d dh => by kernel_rfl)

def ferry_Take_3_dr : Nat → Nat → DrA
  | 2, _ => ⟨[1, 2, 0, 3], [[], [], [1], [0, 1, 2]], [], [], [], false, []⟩
  | _, _ => ⟨[], [], [], [], [], false, []⟩
noncomputable def ferry_Take_3_tb : List (CE CT Try.prog) := []
noncomputable def ferry_Take_3_lt : List (LE CT Try.prog) := []
noncomputable def ferry_Take_3 (x1 : DLetter) : Option (((Int) × (Bool) × (DImage) × Unit) × (Unit)) :=
  some ((0, false, (⟨(⟨0, 0, (⟨[], [], [], []⟩ : DConfig)⟩ : DBase), []⟩ : DImage), ()), ())
noncomputable def ferry_Take_3_ce : CE CT Try.prog where
  f := 22
  args := [.one (.nilptr), .cod 19]
  hs := []
  res := .tup [.one (.int .i64), .one (.bool), .cod 20]
  outs := []
  m := fun d dh => ferry_Take_3 d.2.1
  ok := ce_ok mixedP Try.func22 (by kernel_rfl) (orcOf_ok ferry_Take_3_tb) (dr := ferry_Take_3_dr) (lps := lpsOf ferry_Take_3_lt) (lps_fn (no_loop (by kernel_rfl))) (fun d dh => by kernel_rfl)

def ferry_right_3_dr : Nat → Nat → DrA
  | _, _ => ⟨[], [], [], [], [], false, []⟩
noncomputable def ferry_right_3_tb : List (CE CT Try.prog) := []
noncomputable def ferry_right_3_lt : List (LE CT Try.prog) := []
noncomputable def ferry_right_3 (x0 : DLetter) : Option ((Bool) × (Unit)) :=
  (bif (decide ((x0.kind : Int) = 5)) then
  (bif (decide ((0 : Int) ≤ x0.size)) then
  (bif (decide ((x0.size : Int) ≤ 131072)) then
  (bif (decide ((0 : Int) ≤ x0.at_)) then
  (bif (decide ((x0.at_ : Int) ≤ x0.size)) then
  let y1 : Bool := (decide (((x0.bytes.length : Int) : Int) ≤ (IntKind.i64.wrap (x0.size - x0.at_))))
  some (y1, ())
  else
  some (false, ()))
  else
  some (false, ()))
  else
  some (false, ()))
  else
  some (false, ()))
  else
  some (false, ()))
noncomputable def ferry_right_3_ce : CE CT Try.prog where
  f := 46
  args := [.cod 19]
  hs := []
  res := .val (.one (.bool))
  outs := []
  m := fun d dh => ferry_right_3 d.1
  ok := ce_ok mixedP Try.func46 (by kernel_rfl) (orcOf_ok ferry_right_3_tb) (dr := ferry_right_3_dr) (lps := lpsOf ferry_right_3_lt) (lps_fn (no_loop (by kernel_rfl))) (fun d dh => by kernel_rfl)

def ferry_of_3_dr : Nat → Nat → DrA
  | _, _ => ⟨[], [], [], [], [], false, []⟩
noncomputable def ferry_of_3_tb : List (CE CT Try.prog) := []
noncomputable def ferry_of_3_lt : List (LE CT Try.prog) := []
noncomputable def ferry_of_3 (x0 : DLetter) : Option ((DCrossing) × (Unit)) :=
  some ((⟨x0.term_, x0.base.index, x0.base.term_, x0.size⟩ : DCrossing), ())
noncomputable def ferry_of_3_ce : CE CT Try.prog where
  f := 47
  args := [.cod 19]
  hs := []
  res := .val (.cod 21)
  outs := []
  m := fun d dh => ferry_of_3 d.1
  ok := ce_ok mixedP Try.func47 (by kernel_rfl) (orcOf_ok ferry_of_3_tb) (dr := ferry_of_3_dr) (lps := lpsOf ferry_of_3_lt) (lps_fn (no_loop (by kernel_rfl))) (fun d dh => by kernel_rfl)

def ferry_lay_3_dr : Nat → Nat → DrA
  | _, _ => ⟨[], [], [], [], [], false, []⟩
noncomputable def ferry_lay_3_tb : List (CE CT Try.prog) := []
noncomputable def ferry_lay_3_lt : List (LE CT Try.prog) := []
noncomputable def ferry_lay_3 (x1 : List (UInt8)) (h0 : (Int) × (Int) × (Int) × (Int) × (Bool) × (Bool) × (Nat) × Unit) (h1 : List (UInt8)) : Option ((Unit) × (((Int) × (Int) × (Int) × (Int) × (Bool) × (Bool) × (Nat) × Unit) × (Unit) × (List (UInt8)) × Unit)) :=
  (if (h0.2.2.2.2.2.2.1 + x1.length) ≤ 140737488355328 ∧ (h0.2.2.2.2.2.2.1 + x1.length) * 1 ≤ 140737488355328 ∧ 0 + h0.2.2.2.2.2.2.1 ≤ h1.length then
  some ((), ((h0.1, h0.2.1, h0.2.2.1, h0.2.2.2.1, h0.2.2.2.2.1, h0.2.2.2.2.2.1, (h0.2.2.2.2.2.2.1 + x1.length), ()), (), (h1.take h0.2.2.2.2.2.2.1 ++ x1), ()))
  else none)
noncomputable def ferry_lay_3_ce : CE CT Try.prog where
  f := 48
  args := [.one (.ptr 0 0), .one (.sl 1)]
  hs := [.obj 56 [.int .i64, .int .i64, .int .i64, .int .i64, .bool, .bool, .asz 1 1], .arr 5 1 false]
  res := .tup []
  outs := [.obj 56 [.int .i64, .int .i64, .int .i64, .int .i64, .bool, .bool, .asz 1 2], .dead, .arr 5 1 false]
  m := fun d dh => ferry_lay_3 d.2.1 dh.1 dh.2.1
  ok := ce_ok mixedP Try.func48 (by kernel_rfl) (orcOf_ok ferry_lay_3_tb) (dr := ferry_lay_3_dr) (lps := lpsOf ferry_lay_3_lt) (lps_fn (no_loop (by kernel_rfl))) (fun d dh => by kernel_rfl)

def ferry_Take_4_dr : Nat → Nat → DrA
  | 2, _ => ⟨[1, 2, 0, 3], [[], [], [1], [0, 1, 2]], [], [], [], false, []⟩
  | 3, _ => ⟨[0, 1, 2, 3, 4, 5, 6, 7, 8, 9, 10, 11, 12, 13], [[], [0], [0, 1], [0, 1, 2], [0, 1, 2, 3], [0, 1, 2, 3, 4], [0, 1, 2, 3, 4, 5], [0, 1, 2, 3, 4, 5, 6], [0, 1, 2, 3, 4, 5, 6, 7], [0, 1, 2, 3, 4, 5, 6, 7, 8], [0, 1, 2, 3, 4, 5], [0, 1, 2, 3, 4, 5, 10], [0, 1, 2, 3, 4, 5, 6, 7, 8, 9, 10, 11], [0, 1, 2, 3, 4, 5, 6, 7, 8, 9, 10, 11, 12]], [9], [11], [0], false, []⟩
  | 5, _ => ⟨[1, 2, 0, 3], [[], [], [1], [0, 1, 2]], [], [], [], false, []⟩
  | 8, _ => ⟨[0, 2, 3, 4, 1, 5, 6, 7], [[], [0], [], [2], [2, 3], [2, 3, 4], [2, 3, 4, 5], [0, 1, 2, 3, 4, 5, 6]], [], [], [], false, []⟩
  | 9, _ => ⟨[0, 1, 3, 4, 5, 8, 11, 2, 6, 7, 9, 10, 12, 13, 14, 15, 16], [[], [], [1], [], [3], [3, 4], [3, 4, 5], [3, 4, 5, 6], [], [8], [3, 4, 5, 6, 7, 8, 9], [], [11], [11, 12], [3, 4, 5, 6, 7, 8, 9, 10, 11, 12, 13], [1, 2, 3, 4, 5, 6, 7, 8, 9, 10, 11, 12, 13, 14], [0, 1, 2, 3, 4, 5, 6, 7, 8, 9, 10, 11, 12, 13, 14, 15]], [], [], [], false, []⟩
  | 12, _ => ⟨[0, 2, 3, 1, 4], [[], [], [0], [0, 2], [0, 1, 2, 3]], [], [], [], false, []⟩
  | 13, _ => ⟨[0, 3, 4, 5, 1, 6, 2, 7, 8], [[], [0], [0, 1], [], [3], [3, 4], [3, 4, 5], [0, 1, 2, 3, 4, 5, 6], [0, 1, 2, 3, 4, 5, 6, 7]], [6], [2], [0], false, []⟩
  | 15, _ => ⟨[0, 2, 3, 1, 4], [[], [], [0], [0, 2], [0, 1, 2, 3]], [], [], [], false, []⟩
  | _, _ => ⟨[], [], [], [], [], false, []⟩
noncomputable def ferry_Take_4_tb : List (CE CT Try.prog) := [ferry_right_3_ce, ferry_Drop_ce, ferry_of_3_ce, ferry_lay_3_ce, ferry_own_ce]
noncomputable def ferry_Take_4_lt : List (LE CT Try.prog) := []
noncomputable def ferry_Take_4 (x1 : DLetter) (h0 : (Int) × (Int) × (Int) × (Int) × (Bool) × (Bool) × (Nat) × Unit) (h1 : List (UInt8)) : Option (((Int) × (Bool) × ((Int) × (Int) × (Nat) × (Nat) × (Nat) × (Nat) × (Nat) × Unit) × Unit) × (((Int) × (Int) × (Int) × (Int) × (Bool) × (Bool) × (Nat) × Unit) × (Unit) × (List (Int)) × (List (Int)) × (List (Int)) × (List (Int)) × (List (UInt8)) × (List (UInt8)) × Unit)) :=
  (bif (!h0.2.2.2.2.1) then
  some ((0, false, (0, 0, 0, 0, 0, 0, 0, ()), ()), ((h0.1, h0.2.1, h0.2.2.1, h0.2.2.2.1, h0.2.2.2.2.1, h0.2.2.2.2.2.1, h0.2.2.2.2.2.2.1, ()), (), [], [], [], [], [], h1, ()))
  else
  (ferry_right_3 x1).bind fun r1 =>
  (bif (!r1.1) then
  some ((0, false, (0, 0, 0, 0, 0, 0, 0, ()), ()), ((h0.1, h0.2.1, h0.2.2.1, h0.2.2.2.1, h0.2.2.2.2.1, h0.2.2.2.2.2.1, h0.2.2.2.2.2.2.1, ()), (), [], [], [], [], [], h1, ()))
  else
  (bif (!h0.2.2.2.2.2.1) then
  (bif (decide ((x1.at_ : Int) ≠ 0)) then
  some ((0, false, (0, 0, 0, 0, 0, 0, 0, ()), ()), ((h0.1, h0.2.1, h0.2.2.1, h0.2.2.2.1, h0.2.2.2.2.1, h0.2.2.2.2.2.1, h0.2.2.2.2.2.2.1, ()), (), [], [], [], [], [], h1, ()))
  else
  (ferry_Drop (h0.1, h0.2.1, h0.2.2.1, h0.2.2.2.1, h0.2.2.2.2.1, h0.2.2.2.2.2.1, (), ())).bind fun r2 =>
  (ferry_of_3 x1).bind fun r3 =>
  (bif (decide ((x1.at_ : Int) ≤ ((r2.2.1.2.2.2.2.2.2.1 : Nat) : Int))) then
  let y4 : Int := (if ((x1.bytes.length : Int) : Int) < (IntKind.i64.wrap (((r2.2.1.2.2.2.2.2.2.1 : Nat) : Int) - x1.at_)) then (x1.bytes.length : Int) else (IntKind.i64.wrap (((r2.2.1.2.2.2.2.2.2.1 : Nat) : Int) - x1.at_)))
  (if 0 ≤ (y4 : Int) ∧ (y4 : Int) ≤ (x1.bytes.length : Int) ∧ (x1.bytes.length : Int) ≤ (x1.bytes.length : Int) then
  let y5 : List (UInt8) := ((x1.bytes.drop (y4 : Int).toNat).take (((x1.bytes.length : Int) : Int).toNat - (y4 : Int).toNat))
  (ferry_lay_3 y5 (r3.1.term_, r3.1.index, r3.1.base, r3.1.size, r2.2.1.2.2.2.2.1, true, r2.2.1.2.2.2.2.2.2.1, ()) r2.2.2.1).bind fun r6 =>
  (bif (decide ((((r6.2.1.2.2.2.2.2.2.1 : Nat) : Int) : Int) < r6.2.1.2.2.2.1)) then
  some ((((r6.2.1.2.2.2.2.2.2.1 : Nat) : Int), false, (0, 0, 0, 0, 0, 0, 0, ()), ()), ((r6.2.1.1, r6.2.1.2.1, r6.2.1.2.2.1, r6.2.1.2.2.2.1, r6.2.1.2.2.2.2.1, r6.2.1.2.2.2.2.2.1, r6.2.1.2.2.2.2.2.2.1, ()), (), [], [], [], [], [], r6.2.2.2.1, ()))
  else
  (ferry_own x1.base).bind fun r7 =>
  (ferry_Drop (r6.2.1.1, r6.2.1.2.1, r6.2.1.2.2.1, r6.2.1.2.2.2.1, r6.2.1.2.2.2.2.1, r6.2.1.2.2.2.2.2.1, (), ())).bind fun r8 =>
  some ((((r6.2.1.2.2.2.2.2.2.1 : Nat) : Int), true, (r7.1.1, r7.1.2.1, r7.1.2.2.1, r7.1.2.2.2.1, r7.1.2.2.2.2.1, r7.1.2.2.2.2.2.1, r6.2.1.2.2.2.2.2.2.1, ()), ()), ((r8.2.1.1, r8.2.1.2.1, r8.2.1.2.2.1, r8.2.1.2.2.2.1, r8.2.1.2.2.2.2.1, r8.2.1.2.2.2.2.2.1, r8.2.1.2.2.2.2.2.2.1, ()), (), r7.2.1, r7.2.2.1, r7.2.2.2.1, r7.2.2.2.2.1, r6.2.2.2.1, r8.2.2.1, ())))
  else none)
  else
  (bif (decide ((((r2.2.1.2.2.2.2.2.2.1 : Nat) : Int) : Int) < r3.1.size)) then
  some ((((r2.2.1.2.2.2.2.2.2.1 : Nat) : Int), false, (0, 0, 0, 0, 0, 0, 0, ()), ()), ((r3.1.term_, r3.1.index, r3.1.base, r3.1.size, r2.2.1.2.2.2.2.1, true, r2.2.1.2.2.2.2.2.2.1, ()), (), [], [], [], [], [], r2.2.2.1, ()))
  else
  (ferry_own x1.base).bind fun r9 =>
  (ferry_Drop (r3.1.term_, r3.1.index, r3.1.base, r3.1.size, r2.2.1.2.2.2.2.1, true, (), ())).bind fun r10 =>
  some ((((r2.2.1.2.2.2.2.2.2.1 : Nat) : Int), true, (r9.1.1, r9.1.2.1, r9.1.2.2.1, r9.1.2.2.2.1, r9.1.2.2.2.2.1, r9.1.2.2.2.2.2.1, r2.2.1.2.2.2.2.2.2.1, ()), ()), ((r10.2.1.1, r10.2.1.2.1, r10.2.1.2.2.1, r10.2.1.2.2.2.1, r10.2.1.2.2.2.2.1, r10.2.1.2.2.2.2.2.1, r10.2.1.2.2.2.2.2.2.1, ()), (), r9.2.1, r9.2.2.1, r9.2.2.2.1, r9.2.2.2.2.1, r2.2.2.1, r10.2.2.1, ())))))
  else
  (ferry_of_3 x1).bind fun r11 =>
  (bif (!(decide ((h0.1 : Int) = r11.1.term_) && (decide ((h0.2.1 : Int) = r11.1.index) && (decide ((h0.2.2.1 : Int) = r11.1.base) && (decide ((h0.2.2.2.1 : Int) = r11.1.size) && true))))) then
  (bif (decide ((x1.at_ : Int) ≠ 0)) then
  some ((0, false, (0, 0, 0, 0, 0, 0, 0, ()), ()), ((h0.1, h0.2.1, h0.2.2.1, h0.2.2.2.1, h0.2.2.2.2.1, h0.2.2.2.2.2.1, h0.2.2.2.2.2.2.1, ()), (), [], [], [], [], [], h1, ()))
  else
  (ferry_Drop (h0.1, h0.2.1, h0.2.2.1, h0.2.2.2.1, h0.2.2.2.2.1, h0.2.2.2.2.2.1, (), ())).bind fun r12 =>
  (ferry_of_3 x1).bind fun r13 =>
  (bif (decide ((x1.at_ : Int) ≤ ((r12.2.1.2.2.2.2.2.2.1 : Nat) : Int))) then
  let y14 : Int := (if ((x1.bytes.length : Int) : Int) < (IntKind.i64.wrap (((r12.2.1.2.2.2.2.2.2.1 : Nat) : Int) - x1.at_)) then (x1.bytes.length : Int) else (IntKind.i64.wrap (((r12.2.1.2.2.2.2.2.2.1 : Nat) : Int) - x1.at_)))
  (if 0 ≤ (y14 : Int) ∧ (y14 : Int) ≤ (x1.bytes.length : Int) ∧ (x1.bytes.length : Int) ≤ (x1.bytes.length : Int) then
  let y15 : List (UInt8) := ((x1.bytes.drop (y14 : Int).toNat).take (((x1.bytes.length : Int) : Int).toNat - (y14 : Int).toNat))
  (ferry_lay_3 y15 (r13.1.term_, r13.1.index, r13.1.base, r13.1.size, r12.2.1.2.2.2.2.1, true, r12.2.1.2.2.2.2.2.2.1, ()) r12.2.2.1).bind fun r16 =>
  (bif (decide ((((r16.2.1.2.2.2.2.2.2.1 : Nat) : Int) : Int) < r16.2.1.2.2.2.1)) then
  some ((((r16.2.1.2.2.2.2.2.2.1 : Nat) : Int), false, (0, 0, 0, 0, 0, 0, 0, ()), ()), ((r16.2.1.1, r16.2.1.2.1, r16.2.1.2.2.1, r16.2.1.2.2.2.1, r16.2.1.2.2.2.2.1, r16.2.1.2.2.2.2.2.1, r16.2.1.2.2.2.2.2.2.1, ()), (), [], [], [], [], [], r16.2.2.2.1, ()))
  else
  (ferry_own x1.base).bind fun r17 =>
  (ferry_Drop (r16.2.1.1, r16.2.1.2.1, r16.2.1.2.2.1, r16.2.1.2.2.2.1, r16.2.1.2.2.2.2.1, r16.2.1.2.2.2.2.2.1, (), ())).bind fun r18 =>
  some ((((r16.2.1.2.2.2.2.2.2.1 : Nat) : Int), true, (r17.1.1, r17.1.2.1, r17.1.2.2.1, r17.1.2.2.2.1, r17.1.2.2.2.2.1, r17.1.2.2.2.2.2.1, r16.2.1.2.2.2.2.2.2.1, ()), ()), ((r18.2.1.1, r18.2.1.2.1, r18.2.1.2.2.1, r18.2.1.2.2.2.1, r18.2.1.2.2.2.2.1, r18.2.1.2.2.2.2.2.1, r18.2.1.2.2.2.2.2.2.1, ()), (), r17.2.1, r17.2.2.1, r17.2.2.2.1, r17.2.2.2.2.1, r16.2.2.2.1, r18.2.2.1, ())))
  else none)
  else
  (bif (decide ((((r12.2.1.2.2.2.2.2.2.1 : Nat) : Int) : Int) < r13.1.size)) then
  some ((((r12.2.1.2.2.2.2.2.2.1 : Nat) : Int), false, (0, 0, 0, 0, 0, 0, 0, ()), ()), ((r13.1.term_, r13.1.index, r13.1.base, r13.1.size, r12.2.1.2.2.2.2.1, true, r12.2.1.2.2.2.2.2.2.1, ()), (), [], [], [], [], [], r12.2.2.1, ()))
  else
  (ferry_own x1.base).bind fun r19 =>
  (ferry_Drop (r13.1.term_, r13.1.index, r13.1.base, r13.1.size, r12.2.1.2.2.2.2.1, true, (), ())).bind fun r20 =>
  some ((((r12.2.1.2.2.2.2.2.2.1 : Nat) : Int), true, (r19.1.1, r19.1.2.1, r19.1.2.2.1, r19.1.2.2.2.1, r19.1.2.2.2.2.1, r19.1.2.2.2.2.2.1, r12.2.1.2.2.2.2.2.2.1, ()), ()), ((r20.2.1.1, r20.2.1.2.1, r20.2.1.2.2.1, r20.2.1.2.2.2.1, r20.2.1.2.2.2.2.1, r20.2.1.2.2.2.2.2.1, r20.2.1.2.2.2.2.2.2.1, ()), (), r19.2.1, r19.2.2.1, r19.2.2.2.1, r19.2.2.2.2.1, r12.2.2.1, r20.2.2.1, ())))))
  else
  (bif (decide ((x1.at_ : Int) ≤ ((h0.2.2.2.2.2.2.1 : Nat) : Int))) then
  let y21 : Int := (if ((x1.bytes.length : Int) : Int) < (IntKind.i64.wrap (((h0.2.2.2.2.2.2.1 : Nat) : Int) - x1.at_)) then (x1.bytes.length : Int) else (IntKind.i64.wrap (((h0.2.2.2.2.2.2.1 : Nat) : Int) - x1.at_)))
  (if 0 ≤ (y21 : Int) ∧ (y21 : Int) ≤ (x1.bytes.length : Int) ∧ (x1.bytes.length : Int) ≤ (x1.bytes.length : Int) then
  let y22 : List (UInt8) := ((x1.bytes.drop (y21 : Int).toNat).take (((x1.bytes.length : Int) : Int).toNat - (y21 : Int).toNat))
  (ferry_lay_3 y22 (h0.1, h0.2.1, h0.2.2.1, h0.2.2.2.1, h0.2.2.2.2.1, h0.2.2.2.2.2.1, h0.2.2.2.2.2.2.1, ()) h1).bind fun r23 =>
  (bif (decide ((((r23.2.1.2.2.2.2.2.2.1 : Nat) : Int) : Int) < r23.2.1.2.2.2.1)) then
  some ((((r23.2.1.2.2.2.2.2.2.1 : Nat) : Int), false, (0, 0, 0, 0, 0, 0, 0, ()), ()), ((r23.2.1.1, r23.2.1.2.1, r23.2.1.2.2.1, r23.2.1.2.2.2.1, r23.2.1.2.2.2.2.1, r23.2.1.2.2.2.2.2.1, r23.2.1.2.2.2.2.2.2.1, ()), (), [], [], [], [], [], r23.2.2.2.1, ()))
  else
  (ferry_own x1.base).bind fun r24 =>
  (ferry_Drop (r23.2.1.1, r23.2.1.2.1, r23.2.1.2.2.1, r23.2.1.2.2.2.1, r23.2.1.2.2.2.2.1, r23.2.1.2.2.2.2.2.1, (), ())).bind fun r25 =>
  some ((((r23.2.1.2.2.2.2.2.2.1 : Nat) : Int), true, (r24.1.1, r24.1.2.1, r24.1.2.2.1, r24.1.2.2.2.1, r24.1.2.2.2.2.1, r24.1.2.2.2.2.2.1, r23.2.1.2.2.2.2.2.2.1, ()), ()), ((r25.2.1.1, r25.2.1.2.1, r25.2.1.2.2.1, r25.2.1.2.2.2.1, r25.2.1.2.2.2.2.1, r25.2.1.2.2.2.2.2.1, r25.2.1.2.2.2.2.2.2.1, ()), (), r24.2.1, r24.2.2.1, r24.2.2.2.1, r24.2.2.2.2.1, r23.2.2.2.1, r25.2.2.1, ())))
  else none)
  else
  (bif (decide ((((h0.2.2.2.2.2.2.1 : Nat) : Int) : Int) < h0.2.2.2.1)) then
  some ((((h0.2.2.2.2.2.2.1 : Nat) : Int), false, (0, 0, 0, 0, 0, 0, 0, ()), ()), ((h0.1, h0.2.1, h0.2.2.1, h0.2.2.2.1, h0.2.2.2.2.1, h0.2.2.2.2.2.1, h0.2.2.2.2.2.2.1, ()), (), [], [], [], [], [], h1, ()))
  else
  (ferry_own x1.base).bind fun r26 =>
  (ferry_Drop (h0.1, h0.2.1, h0.2.2.1, h0.2.2.2.1, h0.2.2.2.2.1, h0.2.2.2.2.2.1, (), ())).bind fun r27 =>
  some ((((h0.2.2.2.2.2.2.1 : Nat) : Int), true, (r26.1.1, r26.1.2.1, r26.1.2.2.1, r26.1.2.2.2.1, r26.1.2.2.2.2.1, r26.1.2.2.2.2.2.1, h0.2.2.2.2.2.2.1, ()), ()), ((r27.2.1.1, r27.2.1.2.1, r27.2.1.2.2.1, r27.2.1.2.2.2.1, r27.2.1.2.2.2.2.1, r27.2.1.2.2.2.2.2.1, r27.2.1.2.2.2.2.2.2.1, ()), (), r26.2.1, r26.2.2.1, r26.2.2.2.1, r26.2.2.2.2.1, h1, r27.2.2.1, ()))))))))
noncomputable def ferry_Take_4_ce : CE CT Try.prog where
  f := 22
  args := [.one (.ptr 0 0), .cod 19]
  hs := [.obj 56 [.int .i64, .int .i64, .int .i64, .int .i64, .bool, .bool, .asz 1 1], .arr 5 1 false]
  res := .tup [.one (.int .i64), .one (.bool), .agg [.int .i64, .int .i64, .asz 0 2, .asz 0 3, .asz 0 4, .asz 0 5, .asz 1 6]]
  outs := [.obj 56 [.int .i64, .int .i64, .int .i64, .int .i64, .bool, .bool, .asz 1 7], .dead, .arr 3 0 false, .arr 3 0 false, .arr 3 0 false, .arr 3 0 false, .arr 5 1 false, .arr 5 1 false]
  m := fun d dh => ferry_Take_4 d.2.1 dh.1 dh.2.1
  ok := ce_ok mixedP Try.func22 (by kernel_rfl) (orcOf_ok ferry_Take_4_tb) (dr := ferry_Take_4_dr) (lps := lpsOf ferry_Take_4_lt) (lps_fn (no_loop (by kernel_rfl))) (fun d dh => by kernel_rfl)

def watershedkit_SameBase_4_dr : Nat → Nat → DrA
  | _, _ => ⟨[], [], [], [], [], false, []⟩
noncomputable def watershedkit_SameBase_4_tb : List (CE CT Try.prog) := [watershedkit_SameConfig_2_ce]
noncomputable def watershedkit_SameBase_4_lt : List (LE CT Try.prog) := []
noncomputable def watershedkit_SameBase_4 (x0 : DBase) (x1 : DBase) : Option ((Bool) × (Unit)) :=
  (bif (decide ((x0.index : Int) = x1.index)) then
  (bif (decide ((x0.term_ : Int) = x1.term_)) then
  (watershedkit_SameConfig_2 x0.config x1.config).bind fun r1 =>
  some (r1.1, ())
  else
  some (false, ()))
  else
  some (false, ()))
noncomputable def watershedkit_SameBase_4_ce : CE CT Try.prog where
  f := 38
  args := [.cod 18, .cod 18]
  hs := []
  res := .val (.one (.bool))
  outs := []
  m := fun d dh => watershedkit_SameBase_4 d.1 d.2.1
  ok := ce_ok mixedP Try.func38 (by kernel_rfl) (orcOf_ok watershedkit_SameBase_4_tb) (dr := watershedkit_SameBase_4_dr) (lps := lpsOf watershedkit_SameBase_4_lt) (lps_fn (no_loop (by kernel_rfl))) (fun d dh => by kernel_rfl)

def watershedkit_SameImage_4_dr : Nat → Nat → DrA
  | _, _ => ⟨[], [], [], [], [], false, []⟩
noncomputable def watershedkit_SameImage_4_tb : List (CE CT Try.prog) := [watershedkit_SameBase_4_ce, watershedkit_SameBytes_2_ce]
noncomputable def watershedkit_SameImage_4_lt : List (LE CT Try.prog) := []
noncomputable def watershedkit_SameImage_4 (x0 : DImage) (x1 : DImage) : Option ((Bool) × (Unit)) :=
  (watershedkit_SameBase_4 x0.base x1.base).bind fun r1 =>
  (bif r1.1 then
  (watershedkit_SameBytes_2 x0.bytes x1.bytes).bind fun r2 =>
  some (r2.1, ())
  else
  some (false, ()))
noncomputable def watershedkit_SameImage_4_ce : CE CT Try.prog where
  f := 24
  args := [.cod 20, .cod 20]
  hs := []
  res := .val (.one (.bool))
  outs := []
  m := fun d dh => watershedkit_SameImage_4 d.1 d.2.1
  ok := ce_ok mixedP Try.func24 (by kernel_rfl) (orcOf_ok watershedkit_SameImage_4_tb) (dr := watershedkit_SameImage_4_dr) (lps := lpsOf watershedkit_SameImage_4_lt) (lps_fn (no_loop (by kernel_rfl))) (fun d dh => by kernel_rfl)
end Go.Proofs.Ytlaehnldaejipaa
