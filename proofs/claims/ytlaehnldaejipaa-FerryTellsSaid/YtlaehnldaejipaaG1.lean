/- Models, by program. -/
import Derived.Test.YtlaehnldaejipaaG1a
namespace Go.Proofs.Ytlaehnldaejipaa
open Go.RowKit
set_option maxRecDepth 100000
set_option linter.unusedVariables false
noncomputable def watershedkit_KeptBytes_tb : List (CE CT Try.prog) := [watershedkit_markByte_ce]
noncomputable def watershedkit_KeptBytes_l1 (a : ((List (UInt8)) × (Nat × Nat × Nat × Nat × Unit) × (Int) × Unit) × ((List (DEntryX)) × Unit)) : Option ((((List (UInt8)) × (Nat × Nat × Nat × Nat × Unit) × (Int) × Unit) × ((List (DEntryX)) × Unit)) ⊕ ((((Bool) × Unit) × ((List (DEntryX)) × Unit)) ⊕ ((Unit) × ((List (DEntryX)) × Unit)))) :=
  (bif (decide ((a.1.2.2.1 : Int) < ((a.1.2.1.2.2.1 : Nat) : Int))) then
  (bif (decide ((a.1.2.2.1 : Int) < (a.1.1.length : Int))) then
  (if 0 ≤ (a.1.2.2.1 : Int) ∧ (a.1.2.2.1 : Int) < ((a.1.2.1.2.2.1 : Nat) : Int) then
  (getI a.1.1 a.1.2.2.1).bind fun e1 =>
  (a.2.1[a.1.2.1.1]?).bind fun e2 =>
  ((e2.command.1 ++ e2.command.2)[(a.1.2.1.2.1 + (a.1.2.2.1 : Int).toNat)]?).bind fun e3 =>
  (bif (!(decide (((e3.toNat : Int) : Int) = (e1.toNat : Int)))) then
  some (.inr (.inl ((false, ()), (a.2.1, ()))))
  else
  (bif (decide (((a.1.1.length : Int) : Int) ≤ a.1.2.2.1)) then
  (if 0 ≤ (a.1.2.2.1 : Int) ∧ (a.1.2.2.1 : Int) < ((a.1.2.1.2.2.1 : Nat) : Int) then
  (a.2.1[a.1.2.1.1]?).bind fun e4 =>
  ((e4.command.1 ++ e4.command.2)[(a.1.2.1.2.1 + (a.1.2.2.1 : Int).toNat)]?).bind fun e5 =>
  (watershedkit_markByte 1 (IntKind.i64.wrap (a.1.2.2.1 - (a.1.1.length : Int)))).bind fun r6 =>
  (bif (!(decide (((e5.toNat : Int) : Int) = r6.1))) then
  some (.inr (.inl ((false, ()), (a.2.1, ()))))
  else
  some (.inl ((a.1.1, (a.1.2.1.1, a.1.2.1.2.1, a.1.2.1.2.2.1, a.1.2.1.2.2.2.1, ()), (IntKind.i64.wrap (a.1.2.2.1 + 1)), ()), (a.2.1, ()))))
  else none)
  else
  some (.inl ((a.1.1, (a.1.2.1.1, a.1.2.1.2.1, a.1.2.1.2.2.1, a.1.2.1.2.2.2.1, ()), (IntKind.i64.wrap (a.1.2.2.1 + 1)), ()), (a.2.1, ())))))
  else none)
  else
  (bif (decide (((a.1.1.length : Int) : Int) ≤ a.1.2.2.1)) then
  (if 0 ≤ (a.1.2.2.1 : Int) ∧ (a.1.2.2.1 : Int) < ((a.1.2.1.2.2.1 : Nat) : Int) then
  (a.2.1[a.1.2.1.1]?).bind fun e7 =>
  ((e7.command.1 ++ e7.command.2)[(a.1.2.1.2.1 + (a.1.2.2.1 : Int).toNat)]?).bind fun e8 =>
  (watershedkit_markByte 1 (IntKind.i64.wrap (a.1.2.2.1 - (a.1.1.length : Int)))).bind fun r9 =>
  (bif (!(decide (((e8.toNat : Int) : Int) = r9.1))) then
  some (.inr (.inl ((false, ()), (a.2.1, ()))))
  else
  some (.inl ((a.1.1, (a.1.2.1.1, a.1.2.1.2.1, a.1.2.1.2.2.1, a.1.2.1.2.2.2.1, ()), (IntKind.i64.wrap (a.1.2.2.1 + 1)), ()), (a.2.1, ()))))
  else none)
  else
  some (.inl ((a.1.1, (a.1.2.1.1, a.1.2.1.2.1, a.1.2.1.2.2.1, a.1.2.1.2.2.2.1, ()), (IntKind.i64.wrap (a.1.2.2.1 + 1)), ()), (a.2.1, ())))))
  else
  some (.inr (.inr ((), (a.2.1, ())))))
noncomputable def watershedkit_KeptBytes_e1 : LE CT Try.prog := ⟨5, [1, 5, 6], [.one (.sl 1), .one (.gv 0 542 4), .one (.int .i64)], [.gen 8 true], [⟨.ret, [4], [.one (.bool)], [.gen 8 true]⟩, ⟨.exit 0, [], [], [.gen 8 true]⟩], watershedkit_KeptBytes_l1⟩
noncomputable def watershedkit_KeptBytes_lt : List (LE CT Try.prog) := [watershedkit_KeptBytes_e1]
theorem watershedkit_KeptBytes_e1_ok : LeOk watershedkit_KeptBytes_e1 (nthL (bodyOf Try.f45) 0) := fun A env h k z hk => le_ok (E := watershedkit_KeptBytes_e1) (orcOfX_ok HK0 watershedkit_KeptBytes_tb) (dr := watershedkit_KeptBytes_dr) (lps := lpsOf watershedkit_KeptBytes_lt) (no_loop (by kernel_rfl)) (fun a => by kernel_rfl) env h k z hk
noncomputable def watershedkit_KeptBytes (x0 : Nat × Nat × Nat × Nat × Unit) (x1 : List (UInt8)) (h0 : List (DEntryX)) : Option ((Bool) × ((List (DEntryX)) × Unit)) :=
  (bif (decide ((((x0.2.2.1 : Nat) : Int) : Int) ≠ (x1.length : Int))) then
  some (false, (h0, ()))
  else
  (if 0 ≤ (0 : Int) ∧ (0 : Int) ≤ ((IntKind.i64.wrap ((x1.length : Int) + 12)) : Int) ∧ ((IntKind.i64.wrap ((x1.length : Int) + 12)) : Int) ≤ ((x0.2.2.2.1 : Nat) : Int) ∧ ((0 : Int) = 0 ∨ (0 : Int) < ((x0.2.2.2.1 : Nat) : Int)) then
  (loopM watershedkit_KeptBytes_l1 ((x1, (x0.1, (x0.2.1 + (0 : Int).toNat), (((IntKind.i64.wrap ((x1.length : Int) + 12)) : Int).toNat - (0 : Int).toNat), (x0.2.2.2.1 - (0 : Int).toNat), ()), 0, ()), (h0, ()))).bind fun b1 =>
  (match b1 with
  | .inl b2 =>
  some (b2.1.1, (b2.2.1, ()))
  | .inr b3 =>
  some (true, (b3.2.1, ())))
  else none))
noncomputable def watershedkit_KeptBytes_ce : CE CT Try.prog where
  f := 45
  args := [.one (.gv 0 542 4), .one (.sl 1)]
  hs := [.gen 8 true]
  res := .val (.one (.bool))
  outs := [.gen 8 true]
  m := fun d dh => watershedkit_KeptBytes d.1 d.2.1 dh.1
  ok := ce_ok mixedP Try.func45 (by kernel_rfl) (orcOfX_ok HK0 watershedkit_KeptBytes_tb) (dr := watershedkit_KeptBytes_dr) (lps := lpsOf watershedkit_KeptBytes_lt) (lps_fn (lps_of (n := 1) (by kernel_rfl) fun i hi => match i, hi with | 0, _ => lp_ok (E := watershedkit_KeptBytes_e1) (by kernel_rfl) watershedkit_KeptBytes_e1_ok)) (fun d dh => by kernel_rfl)

def watershedkit_KeptInts_dr : Nat → Nat → DrA
  | 7, _ => ⟨[0, 1, 2, 3, 4, 5, 6, 7, 9, 10, 11, 8, 12, 13, 14, 15, 16, 17, 18, 19, 20, 21, 22, 23, 24, 26, 27, 28, 29, 25, 30, 31, 32, 33, 34], [[], [], [1], [0, 1, 2], [0, 1, 2, 3], [0, 1, 2, 3, 4], [0, 1, 2, 3, 4], [0, 1, 2, 3, 4, 5, 6], [0, 1, 2, 3, 4, 5, 6, 7], [0, 1, 2, 3, 4], [0, 1, 2, 3, 4], [0, 1, 2, 3, 4, 9, 10], [0, 1, 2, 3, 4, 9, 10, 11], [0, 1, 2, 3, 4, 5, 6, 7, 8, 9, 10, 11, 12], [0, 1, 2, 3, 4, 5, 6, 7, 8, 9, 10, 11, 12, 13], [0, 1, 2, 3, 4, 5, 6, 7, 8, 9, 10, 11, 12, 13, 14], [0, 1, 2, 3, 4, 5, 6, 7, 8, 9, 10, 11, 12, 13, 14, 15], [0, 1, 2, 3, 4, 5, 6, 7, 8, 9, 10, 11, 12, 13, 14, 15, 16], [0, 1, 2, 3, 4, 5, 6, 7, 8, 9, 10, 11, 12, 13, 14, 15, 16], [0, 1, 2, 3, 4, 5, 6, 7, 8, 9, 10, 11, 12, 13, 14, 15, 16, 18], [0, 1, 2, 3, 4, 5, 6, 7, 8, 9, 10, 11, 12, 13, 14, 15, 16, 17, 18, 19], [0, 1, 2, 3, 4, 5, 6, 7, 8, 9, 10, 11, 12, 13, 14, 15, 16, 17, 18, 19, 20], [0, 1, 2, 3, 4, 5, 6, 7, 8, 9, 10, 11, 12, 13, 14, 15, 16, 17, 18, 19, 20, 21], [0, 1, 2, 3, 4, 5, 6, 7, 8, 9, 10, 11, 12, 13, 14, 15, 16, 17, 18, 19, 20, 21], [0, 1, 2, 3, 4, 5, 6, 7, 8, 9, 10, 11, 12, 13, 14, 15, 16, 17, 18, 19, 20, 21, 22, 23], [0, 1, 2, 3, 4, 5, 6, 7, 8, 9, 10, 11, 12, 13, 14, 15, 16, 17, 18, 19, 20, 21, 22, 23, 24], [0, 1, 2, 3, 4, 5, 6, 7, 8, 9, 10, 11, 12, 13, 14, 15, 16, 17, 18, 19, 20, 21], [0, 1, 2, 3, 4, 5, 6, 7, 8, 9, 10, 11, 12, 13, 14, 15, 16, 17, 18, 19, 20, 21], [0, 1, 2, 3, 4, 5, 6, 7, 8, 9, 10, 11, 12, 13, 14, 15, 16, 17, 18, 19, 20, 21, 27], [0, 1, 2, 3, 4, 5, 6, 7, 8, 9, 10, 11, 12, 13, 14, 15, 16, 17, 18, 19, 20, 21, 26, 27, 28], [0, 1, 2, 3, 4, 5, 6, 7, 8, 9, 10, 11, 12, 13, 14, 15, 16, 17, 18, 19, 20, 21, 26, 27, 28, 29], [0, 1, 2, 3, 4, 5, 6, 7, 8, 9, 10, 11, 12, 13, 14, 15, 16, 17, 18, 19, 20, 21, 22, 23, 24, 25, 26, 27, 28, 29, 30], [0, 1, 2, 3, 4, 5, 6, 7, 8, 9, 10, 11, 12, 13, 14, 15, 16, 17, 18, 19, 20, 21, 22, 23, 24, 25, 26, 27, 28, 29, 30, 31], [0, 1, 2, 3, 4, 5, 6, 7, 8, 9, 10, 11, 12, 13, 14, 15, 16, 17, 18, 19, 20, 21, 22, 23, 24, 25, 26, 27, 28, 29, 30, 31, 32], [0, 1, 2, 3, 4, 5, 6, 7, 8, 9, 10, 11, 12, 13, 14, 15, 16, 17, 18, 19, 20, 21, 22, 23, 24, 25, 26, 27, 28, 29, 30, 31, 32, 33]], [25], [30], [0], false, []⟩
  | _, _ => ⟨[], [], [], [], [], false, []⟩
noncomputable def watershedkit_KeptInts_tb : List (CE CT Try.prog) := [watershedkit_mark_ce]
noncomputable def watershedkit_KeptInts_l1 (a : ((List (Int)) × (Nat × Nat × Nat × Nat × Unit) × (Int) × Unit) × ((List (DEntryX)) × Unit)) : Option ((((List (Int)) × (Nat × Nat × Nat × Nat × Unit) × (Int) × Unit) × ((List (DEntryX)) × Unit)) ⊕ ((((Bool) × Unit) × ((List (DEntryX)) × Unit)) ⊕ ((Unit) × ((List (DEntryX)) × Unit)))) :=
  (bif (decide ((a.1.2.2.1 : Int) < ((a.1.2.1.2.2.1 : Nat) : Int))) then
  (bif (decide ((a.1.2.2.1 : Int) < (a.1.1.length : Int))) then
  (if 0 ≤ (a.1.2.2.1 : Int) ∧ (a.1.2.2.1 : Int) < ((a.1.2.1.2.2.1 : Nat) : Int) then
  (getI a.1.1 a.1.2.2.1).bind fun e1 =>
  (a.2.1[a.1.2.1.1]?).bind fun e2 =>
  ((e2.config.voters.1 ++ e2.config.voters.2)[(a.1.2.1.2.1 + (a.1.2.2.1 : Int).toNat)]?).bind fun e3 =>
  (bif (!(decide ((e3 : Int) = e1))) then
  some (.inr (.inl ((false, ()), (a.2.1, ()))))
  else
  (bif (decide (((a.1.1.length : Int) : Int) ≤ a.1.2.2.1)) then
  (if 0 ≤ (a.1.2.2.1 : Int) ∧ (a.1.2.2.1 : Int) < ((a.1.2.1.2.2.1 : Nat) : Int) then
  (a.2.1[a.1.2.1.1]?).bind fun e4 =>
  ((e4.config.voters.1 ++ e4.config.voters.2)[(a.1.2.1.2.1 + (a.1.2.2.1 : Int).toNat)]?).bind fun e5 =>
  (watershedkit_mark 1 (IntKind.i64.wrap (a.1.2.2.1 - (a.1.1.length : Int)))).bind fun r6 =>
  (bif (!(decide ((e5 : Int) = r6.1))) then
  some (.inr (.inl ((false, ()), (a.2.1, ()))))
  else
  some (.inl ((a.1.1, (a.1.2.1.1, a.1.2.1.2.1, a.1.2.1.2.2.1, a.1.2.1.2.2.2.1, ()), (IntKind.i64.wrap (a.1.2.2.1 + 1)), ()), (a.2.1, ()))))
  else none)
  else
  some (.inl ((a.1.1, (a.1.2.1.1, a.1.2.1.2.1, a.1.2.1.2.2.1, a.1.2.1.2.2.2.1, ()), (IntKind.i64.wrap (a.1.2.2.1 + 1)), ()), (a.2.1, ())))))
  else none)
  else
  (bif (decide (((a.1.1.length : Int) : Int) ≤ a.1.2.2.1)) then
  (if 0 ≤ (a.1.2.2.1 : Int) ∧ (a.1.2.2.1 : Int) < ((a.1.2.1.2.2.1 : Nat) : Int) then
  (a.2.1[a.1.2.1.1]?).bind fun e7 =>
  ((e7.config.voters.1 ++ e7.config.voters.2)[(a.1.2.1.2.1 + (a.1.2.2.1 : Int).toNat)]?).bind fun e8 =>
  (watershedkit_mark 1 (IntKind.i64.wrap (a.1.2.2.1 - (a.1.1.length : Int)))).bind fun r9 =>
  (bif (!(decide ((e8 : Int) = r9.1))) then
  some (.inr (.inl ((false, ()), (a.2.1, ()))))
  else
  some (.inl ((a.1.1, (a.1.2.1.1, a.1.2.1.2.1, a.1.2.1.2.2.1, a.1.2.1.2.2.2.1, ()), (IntKind.i64.wrap (a.1.2.2.1 + 1)), ()), (a.2.1, ()))))
  else none)
  else
  some (.inl ((a.1.1, (a.1.2.1.1, a.1.2.1.2.1, a.1.2.1.2.2.1, a.1.2.1.2.2.2.1, ()), (IntKind.i64.wrap (a.1.2.2.1 + 1)), ()), (a.2.1, ())))))
  else
  some (.inr (.inr ((), (a.2.1, ())))))
noncomputable def watershedkit_KeptInts_e1 : LE CT Try.prog := ⟨5, [1, 5, 6], [.one (.sl 0), .one (.gv 0 798 4), .one (.int .i64)], [.gen 8 true], [⟨.ret, [4], [.one (.bool)], [.gen 8 true]⟩, ⟨.exit 0, [], [], [.gen 8 true]⟩], watershedkit_KeptInts_l1⟩
noncomputable def watershedkit_KeptInts_lt : List (LE CT Try.prog) := [watershedkit_KeptInts_e1]
theorem watershedkit_KeptInts_e1_ok : LeOk watershedkit_KeptInts_e1 (nthL (bodyOf Try.f70) 0) := fun A env h k z hk => le_ok (E := watershedkit_KeptInts_e1) (orcOfX_ok HK0 watershedkit_KeptInts_tb) (dr := watershedkit_KeptInts_dr) (lps := lpsOf watershedkit_KeptInts_lt) (no_loop (by kernel_rfl)) (fun a => by kernel_rfl) env h k z hk
noncomputable def watershedkit_KeptInts (x0 : Nat × Nat × Nat × Nat × Unit) (x1 : List (Int)) (h0 : List (DEntryX)) : Option ((Bool) × ((List (DEntryX)) × Unit)) :=
  (bif (decide ((((x0.2.2.1 : Nat) : Int) : Int) ≠ (x1.length : Int))) then
  some (false, (h0, ()))
  else
  (if 0 ≤ (0 : Int) ∧ (0 : Int) ≤ ((IntKind.i64.wrap ((x1.length : Int) + 12)) : Int) ∧ ((IntKind.i64.wrap ((x1.length : Int) + 12)) : Int) ≤ ((x0.2.2.2.1 : Nat) : Int) ∧ ((0 : Int) = 0 ∨ (0 : Int) < ((x0.2.2.2.1 : Nat) : Int)) then
  (loopM watershedkit_KeptInts_l1 ((x1, (x0.1, (x0.2.1 + (0 : Int).toNat), (((IntKind.i64.wrap ((x1.length : Int) + 12)) : Int).toNat - (0 : Int).toNat), (x0.2.2.2.1 - (0 : Int).toNat), ()), 0, ()), (h0, ()))).bind fun b1 =>
  (match b1 with
  | .inl b2 =>
  some (b2.1.1, (b2.2.1, ()))
  | .inr b3 =>
  some (true, (b3.2.1, ())))
  else none))
noncomputable def watershedkit_KeptInts_ce : CE CT Try.prog where
  f := 70
  args := [.one (.gv 0 798 4), .one (.sl 0)]
  hs := [.gen 8 true]
  res := .val (.one (.bool))
  outs := [.gen 8 true]
  m := fun d dh => watershedkit_KeptInts d.1 d.2.1 dh.1
  ok := ce_ok mixedP Try.func70 (by kernel_rfl) (orcOfX_ok HK0 watershedkit_KeptInts_tb) (dr := watershedkit_KeptInts_dr) (lps := lpsOf watershedkit_KeptInts_lt) (lps_fn (lps_of (n := 1) (by kernel_rfl) fun i hi => match i, hi with | 0, _ => lp_ok (E := watershedkit_KeptInts_e1) (by kernel_rfl) watershedkit_KeptInts_e1_ok)) (fun d dh => by kernel_rfl)

def watershedkit_KeptInts_2_dr : Nat → Nat → DrA
  | 7, _ => ⟨[0, 1, 2, 3, 4, 5, 6, 7, 9, 10, 11, 8, 12, 13, 14, 15, 16, 17, 18, 19, 20, 21, 22, 23, 24, 26, 27, 28, 29, 25, 30, 31, 32, 33, 34], [[], [], [1], [0, 1, 2], [0, 1, 2, 3], [0, 1, 2, 3, 4], [0, 1, 2, 3, 4], [0, 1, 2, 3, 4, 5, 6], [0, 1, 2, 3, 4, 5, 6, 7], [0, 1, 2, 3, 4], [0, 1, 2, 3, 4], [0, 1, 2, 3, 4, 9, 10], [0, 1, 2, 3, 4, 9, 10, 11], [0, 1, 2, 3, 4, 5, 6, 7, 8, 9, 10, 11, 12], [0, 1, 2, 3, 4, 5, 6, 7, 8, 9, 10, 11, 12, 13], [0, 1, 2, 3, 4, 5, 6, 7, 8, 9, 10, 11, 12, 13, 14], [0, 1, 2, 3, 4, 5, 6, 7, 8, 9, 10, 11, 12, 13, 14, 15], [0, 1, 2, 3, 4, 5, 6, 7, 8, 9, 10, 11, 12, 13, 14, 15, 16], [0, 1, 2, 3, 4, 5, 6, 7, 8, 9, 10, 11, 12, 13, 14, 15, 16], [0, 1, 2, 3, 4, 5, 6, 7, 8, 9, 10, 11, 12, 13, 14, 15, 16, 18], [0, 1, 2, 3, 4, 5, 6, 7, 8, 9, 10, 11, 12, 13, 14, 15, 16, 17, 18, 19], [0, 1, 2, 3, 4, 5, 6, 7, 8, 9, 10, 11, 12, 13, 14, 15, 16, 17, 18, 19, 20], [0, 1, 2, 3, 4, 5, 6, 7, 8, 9, 10, 11, 12, 13, 14, 15, 16, 17, 18, 19, 20, 21], [0, 1, 2, 3, 4, 5, 6, 7, 8, 9, 10, 11, 12, 13, 14, 15, 16, 17, 18, 19, 20, 21], [0, 1, 2, 3, 4, 5, 6, 7, 8, 9, 10, 11, 12, 13, 14, 15, 16, 17, 18, 19, 20, 21, 22, 23], [0, 1, 2, 3, 4, 5, 6, 7, 8, 9, 10, 11, 12, 13, 14, 15, 16, 17, 18, 19, 20, 21, 22, 23, 24], [0, 1, 2, 3, 4, 5, 6, 7, 8, 9, 10, 11, 12, 13, 14, 15, 16, 17, 18, 19, 20, 21], [0, 1, 2, 3, 4, 5, 6, 7, 8, 9, 10, 11, 12, 13, 14, 15, 16, 17, 18, 19, 20, 21], [0, 1, 2, 3, 4, 5, 6, 7, 8, 9, 10, 11, 12, 13, 14, 15, 16, 17, 18, 19, 20, 21, 27], [0, 1, 2, 3, 4, 5, 6, 7, 8, 9, 10, 11, 12, 13, 14, 15, 16, 17, 18, 19, 20, 21, 26, 27, 28], [0, 1, 2, 3, 4, 5, 6, 7, 8, 9, 10, 11, 12, 13, 14, 15, 16, 17, 18, 19, 20, 21, 26, 27, 28, 29], [0, 1, 2, 3, 4, 5, 6, 7, 8, 9, 10, 11, 12, 13, 14, 15, 16, 17, 18, 19, 20, 21, 22, 23, 24, 25, 26, 27, 28, 29, 30], [0, 1, 2, 3, 4, 5, 6, 7, 8, 9, 10, 11, 12, 13, 14, 15, 16, 17, 18, 19, 20, 21, 22, 23, 24, 25, 26, 27, 28, 29, 30, 31], [0, 1, 2, 3, 4, 5, 6, 7, 8, 9, 10, 11, 12, 13, 14, 15, 16, 17, 18, 19, 20, 21, 22, 23, 24, 25, 26, 27, 28, 29, 30, 31, 32], [0, 1, 2, 3, 4, 5, 6, 7, 8, 9, 10, 11, 12, 13, 14, 15, 16, 17, 18, 19, 20, 21, 22, 23, 24, 25, 26, 27, 28, 29, 30, 31, 32, 33]], [25], [30], [0], false, []⟩
  | _, _ => ⟨[], [], [], [], [], false, []⟩
noncomputable def watershedkit_KeptInts_2_tb : List (CE CT Try.prog) := [watershedkit_mark_ce]
noncomputable def watershedkit_KeptInts_2_l1 (a : ((List (Int)) × (Nat × Nat × Nat × Nat × Unit) × (Int) × Unit) × ((List (DEntryX)) × Unit)) : Option ((((List (Int)) × (Nat × Nat × Nat × Nat × Unit) × (Int) × Unit) × ((List (DEntryX)) × Unit)) ⊕ ((((Bool) × Unit) × ((List (DEntryX)) × Unit)) ⊕ ((Unit) × ((List (DEntryX)) × Unit)))) :=
  (bif (decide ((a.1.2.2.1 : Int) < ((a.1.2.1.2.2.1 : Nat) : Int))) then
  (bif (decide ((a.1.2.2.1 : Int) < (a.1.1.length : Int))) then
  (if 0 ≤ (a.1.2.2.1 : Int) ∧ (a.1.2.2.1 : Int) < ((a.1.2.1.2.2.1 : Nat) : Int) then
  (getI a.1.1 a.1.2.2.1).bind fun e1 =>
  (a.2.1[a.1.2.1.1]?).bind fun e2 =>
  ((e2.config.old.1 ++ e2.config.old.2)[(a.1.2.1.2.1 + (a.1.2.2.1 : Int).toNat)]?).bind fun e3 =>
  (bif (!(decide ((e3 : Int) = e1))) then
  some (.inr (.inl ((false, ()), (a.2.1, ()))))
  else
  (bif (decide (((a.1.1.length : Int) : Int) ≤ a.1.2.2.1)) then
  (if 0 ≤ (a.1.2.2.1 : Int) ∧ (a.1.2.2.1 : Int) < ((a.1.2.1.2.2.1 : Nat) : Int) then
  (a.2.1[a.1.2.1.1]?).bind fun e4 =>
  ((e4.config.old.1 ++ e4.config.old.2)[(a.1.2.1.2.1 + (a.1.2.2.1 : Int).toNat)]?).bind fun e5 =>
  (watershedkit_mark 1 (IntKind.i64.wrap (a.1.2.2.1 - (a.1.1.length : Int)))).bind fun r6 =>
  (bif (!(decide ((e5 : Int) = r6.1))) then
  some (.inr (.inl ((false, ()), (a.2.1, ()))))
  else
  some (.inl ((a.1.1, (a.1.2.1.1, a.1.2.1.2.1, a.1.2.1.2.2.1, a.1.2.1.2.2.2.1, ()), (IntKind.i64.wrap (a.1.2.2.1 + 1)), ()), (a.2.1, ()))))
  else none)
  else
  some (.inl ((a.1.1, (a.1.2.1.1, a.1.2.1.2.1, a.1.2.1.2.2.1, a.1.2.1.2.2.2.1, ()), (IntKind.i64.wrap (a.1.2.2.1 + 1)), ()), (a.2.1, ())))))
  else none)
  else
  (bif (decide (((a.1.1.length : Int) : Int) ≤ a.1.2.2.1)) then
  (if 0 ≤ (a.1.2.2.1 : Int) ∧ (a.1.2.2.1 : Int) < ((a.1.2.1.2.2.1 : Nat) : Int) then
  (a.2.1[a.1.2.1.1]?).bind fun e7 =>
  ((e7.config.old.1 ++ e7.config.old.2)[(a.1.2.1.2.1 + (a.1.2.2.1 : Int).toNat)]?).bind fun e8 =>
  (watershedkit_mark 1 (IntKind.i64.wrap (a.1.2.2.1 - (a.1.1.length : Int)))).bind fun r9 =>
  (bif (!(decide ((e8 : Int) = r9.1))) then
  some (.inr (.inl ((false, ()), (a.2.1, ()))))
  else
  some (.inl ((a.1.1, (a.1.2.1.1, a.1.2.1.2.1, a.1.2.1.2.2.1, a.1.2.1.2.2.2.1, ()), (IntKind.i64.wrap (a.1.2.2.1 + 1)), ()), (a.2.1, ()))))
  else none)
  else
  some (.inl ((a.1.1, (a.1.2.1.1, a.1.2.1.2.1, a.1.2.1.2.2.1, a.1.2.1.2.2.2.1, ()), (IntKind.i64.wrap (a.1.2.2.1 + 1)), ()), (a.2.1, ())))))
  else
  some (.inr (.inr ((), (a.2.1, ())))))
noncomputable def watershedkit_KeptInts_2_e1 : LE CT Try.prog := ⟨5, [1, 5, 6], [.one (.sl 0), .one (.gv 0 1054 4), .one (.int .i64)], [.gen 8 true], [⟨.ret, [4], [.one (.bool)], [.gen 8 true]⟩, ⟨.exit 0, [], [], [.gen 8 true]⟩], watershedkit_KeptInts_2_l1⟩
noncomputable def watershedkit_KeptInts_2_lt : List (LE CT Try.prog) := [watershedkit_KeptInts_2_e1]
theorem watershedkit_KeptInts_2_e1_ok : LeOk watershedkit_KeptInts_2_e1 (nthL (bodyOf Try.f70) 0) := fun A env h k z hk => le_ok (E := watershedkit_KeptInts_2_e1) (orcOfX_ok HK0 watershedkit_KeptInts_2_tb) (dr := watershedkit_KeptInts_2_dr) (lps := lpsOf watershedkit_KeptInts_2_lt) (no_loop (by kernel_rfl)) (fun a => by kernel_rfl) env h k z hk
noncomputable def watershedkit_KeptInts_2 (x0 : Nat × Nat × Nat × Nat × Unit) (x1 : List (Int)) (h0 : List (DEntryX)) : Option ((Bool) × ((List (DEntryX)) × Unit)) :=
  (bif (decide ((((x0.2.2.1 : Nat) : Int) : Int) ≠ (x1.length : Int))) then
  some (false, (h0, ()))
  else
  (if 0 ≤ (0 : Int) ∧ (0 : Int) ≤ ((IntKind.i64.wrap ((x1.length : Int) + 12)) : Int) ∧ ((IntKind.i64.wrap ((x1.length : Int) + 12)) : Int) ≤ ((x0.2.2.2.1 : Nat) : Int) ∧ ((0 : Int) = 0 ∨ (0 : Int) < ((x0.2.2.2.1 : Nat) : Int)) then
  (loopM watershedkit_KeptInts_2_l1 ((x1, (x0.1, (x0.2.1 + (0 : Int).toNat), (((IntKind.i64.wrap ((x1.length : Int) + 12)) : Int).toNat - (0 : Int).toNat), (x0.2.2.2.1 - (0 : Int).toNat), ()), 0, ()), (h0, ()))).bind fun b1 =>
  (match b1 with
  | .inl b2 =>
  some (b2.1.1, (b2.2.1, ()))
  | .inr b3 =>
  some (true, (b3.2.1, ())))
  else none))
noncomputable def watershedkit_KeptInts_2_ce : CE CT Try.prog where
  f := 70
  args := [.one (.gv 0 1054 4), .one (.sl 0)]
  hs := [.gen 8 true]
  res := .val (.one (.bool))
  outs := [.gen 8 true]
  m := fun d dh => watershedkit_KeptInts_2 d.1 d.2.1 dh.1
  ok := ce_ok mixedP Try.func70 (by kernel_rfl) (orcOfX_ok HK0 watershedkit_KeptInts_2_tb) (dr := watershedkit_KeptInts_2_dr) (lps := lpsOf watershedkit_KeptInts_2_lt) (lps_fn (lps_of (n := 1) (by kernel_rfl) fun i hi => match i, hi with | 0, _ => lp_ok (E := watershedkit_KeptInts_2_e1) (by kernel_rfl) watershedkit_KeptInts_2_e1_ok)) (fun d dh => by kernel_rfl)

def watershedkit_KeptInts_3_dr : Nat → Nat → DrA
  | 7, _ => ⟨[0, 1, 2, 3, 4, 5, 6, 7, 9, 10, 11, 8, 12, 13, 14, 15, 16, 17, 18, 19, 20, 21, 22, 23, 24, 26, 27, 28, 29, 25, 30, 31, 32, 33, 34], [[], [], [1], [0, 1, 2], [0, 1, 2, 3], [0, 1, 2, 3, 4], [0, 1, 2, 3, 4], [0, 1, 2, 3, 4, 5, 6], [0, 1, 2, 3, 4, 5, 6, 7], [0, 1, 2, 3, 4], [0, 1, 2, 3, 4], [0, 1, 2, 3, 4, 9, 10], [0, 1, 2, 3, 4, 9, 10, 11], [0, 1, 2, 3, 4, 5, 6, 7, 8, 9, 10, 11, 12], [0, 1, 2, 3, 4, 5, 6, 7, 8, 9, 10, 11, 12, 13], [0, 1, 2, 3, 4, 5, 6, 7, 8, 9, 10, 11, 12, 13, 14], [0, 1, 2, 3, 4, 5, 6, 7, 8, 9, 10, 11, 12, 13, 14, 15], [0, 1, 2, 3, 4, 5, 6, 7, 8, 9, 10, 11, 12, 13, 14, 15, 16], [0, 1, 2, 3, 4, 5, 6, 7, 8, 9, 10, 11, 12, 13, 14, 15, 16], [0, 1, 2, 3, 4, 5, 6, 7, 8, 9, 10, 11, 12, 13, 14, 15, 16, 18], [0, 1, 2, 3, 4, 5, 6, 7, 8, 9, 10, 11, 12, 13, 14, 15, 16, 17, 18, 19], [0, 1, 2, 3, 4, 5, 6, 7, 8, 9, 10, 11, 12, 13, 14, 15, 16, 17, 18, 19, 20], [0, 1, 2, 3, 4, 5, 6, 7, 8, 9, 10, 11, 12, 13, 14, 15, 16, 17, 18, 19, 20, 21], [0, 1, 2, 3, 4, 5, 6, 7, 8, 9, 10, 11, 12, 13, 14, 15, 16, 17, 18, 19, 20, 21], [0, 1, 2, 3, 4, 5, 6, 7, 8, 9, 10, 11, 12, 13, 14, 15, 16, 17, 18, 19, 20, 21, 22, 23], [0, 1, 2, 3, 4, 5, 6, 7, 8, 9, 10, 11, 12, 13, 14, 15, 16, 17, 18, 19, 20, 21, 22, 23, 24], [0, 1, 2, 3, 4, 5, 6, 7, 8, 9, 10, 11, 12, 13, 14, 15, 16, 17, 18, 19, 20, 21], [0, 1, 2, 3, 4, 5, 6, 7, 8, 9, 10, 11, 12, 13, 14, 15, 16, 17, 18, 19, 20, 21], [0, 1, 2, 3, 4, 5, 6, 7, 8, 9, 10, 11, 12, 13, 14, 15, 16, 17, 18, 19, 20, 21, 27], [0, 1, 2, 3, 4, 5, 6, 7, 8, 9, 10, 11, 12, 13, 14, 15, 16, 17, 18, 19, 20, 21, 26, 27, 28], [0, 1, 2, 3, 4, 5, 6, 7, 8, 9, 10, 11, 12, 13, 14, 15, 16, 17, 18, 19, 20, 21, 26, 27, 28, 29], [0, 1, 2, 3, 4, 5, 6, 7, 8, 9, 10, 11, 12, 13, 14, 15, 16, 17, 18, 19, 20, 21, 22, 23, 24, 25, 26, 27, 28, 29, 30], [0, 1, 2, 3, 4, 5, 6, 7, 8, 9, 10, 11, 12, 13, 14, 15, 16, 17, 18, 19, 20, 21, 22, 23, 24, 25, 26, 27, 28, 29, 30, 31], [0, 1, 2, 3, 4, 5, 6, 7, 8, 9, 10, 11, 12, 13, 14, 15, 16, 17, 18, 19, 20, 21, 22, 23, 24, 25, 26, 27, 28, 29, 30, 31, 32], [0, 1, 2, 3, 4, 5, 6, 7, 8, 9, 10, 11, 12, 13, 14, 15, 16, 17, 18, 19, 20, 21, 22, 23, 24, 25, 26, 27, 28, 29, 30, 31, 32, 33]], [25], [30], [0], false, []⟩
  | _, _ => ⟨[], [], [], [], [], false, []⟩
noncomputable def watershedkit_KeptInts_3_tb : List (CE CT Try.prog) := [watershedkit_mark_ce]
noncomputable def watershedkit_KeptInts_3_l1 (a : ((List (Int)) × (Nat × Nat × Nat × Nat × Unit) × (Int) × Unit) × ((List (DEntryX)) × Unit)) : Option ((((List (Int)) × (Nat × Nat × Nat × Nat × Unit) × (Int) × Unit) × ((List (DEntryX)) × Unit)) ⊕ ((((Bool) × Unit) × ((List (DEntryX)) × Unit)) ⊕ ((Unit) × ((List (DEntryX)) × Unit)))) :=
  (bif (decide ((a.1.2.2.1 : Int) < ((a.1.2.1.2.2.1 : Nat) : Int))) then
  (bif (decide ((a.1.2.2.1 : Int) < (a.1.1.length : Int))) then
  (if 0 ≤ (a.1.2.2.1 : Int) ∧ (a.1.2.2.1 : Int) < ((a.1.2.1.2.2.1 : Nat) : Int) then
  (getI a.1.1 a.1.2.2.1).bind fun e1 =>
  (a.2.1[a.1.2.1.1]?).bind fun e2 =>
  ((e2.config.learners.1 ++ e2.config.learners.2)[(a.1.2.1.2.1 + (a.1.2.2.1 : Int).toNat)]?).bind fun e3 =>
  (bif (!(decide ((e3 : Int) = e1))) then
  some (.inr (.inl ((false, ()), (a.2.1, ()))))
  else
  (bif (decide (((a.1.1.length : Int) : Int) ≤ a.1.2.2.1)) then
  (if 0 ≤ (a.1.2.2.1 : Int) ∧ (a.1.2.2.1 : Int) < ((a.1.2.1.2.2.1 : Nat) : Int) then
  (a.2.1[a.1.2.1.1]?).bind fun e4 =>
  ((e4.config.learners.1 ++ e4.config.learners.2)[(a.1.2.1.2.1 + (a.1.2.2.1 : Int).toNat)]?).bind fun e5 =>
  (watershedkit_mark 1 (IntKind.i64.wrap (a.1.2.2.1 - (a.1.1.length : Int)))).bind fun r6 =>
  (bif (!(decide ((e5 : Int) = r6.1))) then
  some (.inr (.inl ((false, ()), (a.2.1, ()))))
  else
  some (.inl ((a.1.1, (a.1.2.1.1, a.1.2.1.2.1, a.1.2.1.2.2.1, a.1.2.1.2.2.2.1, ()), (IntKind.i64.wrap (a.1.2.2.1 + 1)), ()), (a.2.1, ()))))
  else none)
  else
  some (.inl ((a.1.1, (a.1.2.1.1, a.1.2.1.2.1, a.1.2.1.2.2.1, a.1.2.1.2.2.2.1, ()), (IntKind.i64.wrap (a.1.2.2.1 + 1)), ()), (a.2.1, ())))))
  else none)
  else
  (bif (decide (((a.1.1.length : Int) : Int) ≤ a.1.2.2.1)) then
  (if 0 ≤ (a.1.2.2.1 : Int) ∧ (a.1.2.2.1 : Int) < ((a.1.2.1.2.2.1 : Nat) : Int) then
  (a.2.1[a.1.2.1.1]?).bind fun e7 =>
  ((e7.config.learners.1 ++ e7.config.learners.2)[(a.1.2.1.2.1 + (a.1.2.2.1 : Int).toNat)]?).bind fun e8 =>
  (watershedkit_mark 1 (IntKind.i64.wrap (a.1.2.2.1 - (a.1.1.length : Int)))).bind fun r9 =>
  (bif (!(decide ((e8 : Int) = r9.1))) then
  some (.inr (.inl ((false, ()), (a.2.1, ()))))
  else
  some (.inl ((a.1.1, (a.1.2.1.1, a.1.2.1.2.1, a.1.2.1.2.2.1, a.1.2.1.2.2.2.1, ()), (IntKind.i64.wrap (a.1.2.2.1 + 1)), ()), (a.2.1, ()))))
  else none)
  else
  some (.inl ((a.1.1, (a.1.2.1.1, a.1.2.1.2.1, a.1.2.1.2.2.1, a.1.2.1.2.2.2.1, ()), (IntKind.i64.wrap (a.1.2.2.1 + 1)), ()), (a.2.1, ())))))
  else
  some (.inr (.inr ((), (a.2.1, ())))))
noncomputable def watershedkit_KeptInts_3_e1 : LE CT Try.prog := ⟨5, [1, 5, 6], [.one (.sl 0), .one (.gv 0 1310 4), .one (.int .i64)], [.gen 8 true], [⟨.ret, [4], [.one (.bool)], [.gen 8 true]⟩, ⟨.exit 0, [], [], [.gen 8 true]⟩], watershedkit_KeptInts_3_l1⟩
noncomputable def watershedkit_KeptInts_3_lt : List (LE CT Try.prog) := [watershedkit_KeptInts_3_e1]
theorem watershedkit_KeptInts_3_e1_ok : LeOk watershedkit_KeptInts_3_e1 (nthL (bodyOf Try.f70) 0) := fun A env h k z hk => le_ok (E := watershedkit_KeptInts_3_e1) (orcOfX_ok HK0 watershedkit_KeptInts_3_tb) (dr := watershedkit_KeptInts_3_dr) (lps := lpsOf watershedkit_KeptInts_3_lt) (no_loop (by kernel_rfl)) (fun a => by kernel_rfl) env h k z hk
noncomputable def watershedkit_KeptInts_3 (x0 : Nat × Nat × Nat × Nat × Unit) (x1 : List (Int)) (h0 : List (DEntryX)) : Option ((Bool) × ((List (DEntryX)) × Unit)) :=
  (bif (decide ((((x0.2.2.1 : Nat) : Int) : Int) ≠ (x1.length : Int))) then
  some (false, (h0, ()))
  else
  (if 0 ≤ (0 : Int) ∧ (0 : Int) ≤ ((IntKind.i64.wrap ((x1.length : Int) + 12)) : Int) ∧ ((IntKind.i64.wrap ((x1.length : Int) + 12)) : Int) ≤ ((x0.2.2.2.1 : Nat) : Int) ∧ ((0 : Int) = 0 ∨ (0 : Int) < ((x0.2.2.2.1 : Nat) : Int)) then
  (loopM watershedkit_KeptInts_3_l1 ((x1, (x0.1, (x0.2.1 + (0 : Int).toNat), (((IntKind.i64.wrap ((x1.length : Int) + 12)) : Int).toNat - (0 : Int).toNat), (x0.2.2.2.1 - (0 : Int).toNat), ()), 0, ()), (h0, ()))).bind fun b1 =>
  (match b1 with
  | .inl b2 =>
  some (b2.1.1, (b2.2.1, ()))
  | .inr b3 =>
  some (true, (b3.2.1, ())))
  else none))
noncomputable def watershedkit_KeptInts_3_ce : CE CT Try.prog where
  f := 70
  args := [.one (.gv 0 1310 4), .one (.sl 0)]
  hs := [.gen 8 true]
  res := .val (.one (.bool))
  outs := [.gen 8 true]
  m := fun d dh => watershedkit_KeptInts_3 d.1 d.2.1 dh.1
  ok := ce_ok mixedP Try.func70 (by kernel_rfl) (orcOfX_ok HK0 watershedkit_KeptInts_3_tb) (dr := watershedkit_KeptInts_3_dr) (lps := lpsOf watershedkit_KeptInts_3_lt) (lps_fn (lps_of (n := 1) (by kernel_rfl) fun i hi => match i, hi with | 0, _ => lp_ok (E := watershedkit_KeptInts_3_e1) (by kernel_rfl) watershedkit_KeptInts_3_e1_ok)) (fun d dh => by kernel_rfl)

def watershedkit_KeptInts_4_dr : Nat → Nat → DrA
  | 7, _ => ⟨[0, 1, 2, 3, 4, 5, 6, 7, 9, 10, 11, 8, 12, 13, 14, 15, 16, 17, 18, 19, 20, 21, 22, 23, 24, 26, 27, 28, 29, 25, 30, 31, 32, 33, 34], [[], [], [1], [0, 1, 2], [0, 1, 2, 3], [0, 1, 2, 3, 4], [0, 1, 2, 3, 4], [0, 1, 2, 3, 4, 5, 6], [0, 1, 2, 3, 4, 5, 6, 7], [0, 1, 2, 3, 4], [0, 1, 2, 3, 4], [0, 1, 2, 3, 4, 9, 10], [0, 1, 2, 3, 4, 9, 10, 11], [0, 1, 2, 3, 4, 5, 6, 7, 8, 9, 10, 11, 12], [0, 1, 2, 3, 4, 5, 6, 7, 8, 9, 10, 11, 12, 13], [0, 1, 2, 3, 4, 5, 6, 7, 8, 9, 10, 11, 12, 13, 14], [0, 1, 2, 3, 4, 5, 6, 7, 8, 9, 10, 11, 12, 13, 14, 15], [0, 1, 2, 3, 4, 5, 6, 7, 8, 9, 10, 11, 12, 13, 14, 15, 16], [0, 1, 2, 3, 4, 5, 6, 7, 8, 9, 10, 11, 12, 13, 14, 15, 16], [0, 1, 2, 3, 4, 5, 6, 7, 8, 9, 10, 11, 12, 13, 14, 15, 16, 18], [0, 1, 2, 3, 4, 5, 6, 7, 8, 9, 10, 11, 12, 13, 14, 15, 16, 17, 18, 19], [0, 1, 2, 3, 4, 5, 6, 7, 8, 9, 10, 11, 12, 13, 14, 15, 16, 17, 18, 19, 20], [0, 1, 2, 3, 4, 5, 6, 7, 8, 9, 10, 11, 12, 13, 14, 15, 16, 17, 18, 19, 20, 21], [0, 1, 2, 3, 4, 5, 6, 7, 8, 9, 10, 11, 12, 13, 14, 15, 16, 17, 18, 19, 20, 21], [0, 1, 2, 3, 4, 5, 6, 7, 8, 9, 10, 11, 12, 13, 14, 15, 16, 17, 18, 19, 20, 21, 22, 23], [0, 1, 2, 3, 4, 5, 6, 7, 8, 9, 10, 11, 12, 13, 14, 15, 16, 17, 18, 19, 20, 21, 22, 23, 24], [0, 1, 2, 3, 4, 5, 6, 7, 8, 9, 10, 11, 12, 13, 14, 15, 16, 17, 18, 19, 20, 21], [0, 1, 2, 3, 4, 5, 6, 7, 8, 9, 10, 11, 12, 13, 14, 15, 16, 17, 18, 19, 20, 21], [0, 1, 2, 3, 4, 5, 6, 7, 8, 9, 10, 11, 12, 13, 14, 15, 16, 17, 18, 19, 20, 21, 27], [0, 1, 2, 3, 4, 5, 6, 7, 8, 9, 10, 11, 12, 13, 14, 15, 16, 17, 18, 19, 20, 21, 26, 27, 28], [0, 1, 2, 3, 4, 5, 6, 7, 8, 9, 10, 11, 12, 13, 14, 15, 16, 17, 18, 19, 20, 21, 26, 27, 28, 29], [0, 1, 2, 3, 4, 5, 6, 7, 8, 9, 10, 11, 12, 13, 14, 15, 16, 17, 18, 19, 20, 21, 22, 23, 24, 25, 26, 27, 28, 29, 30], [0, 1, 2, 3, 4, 5, 6, 7, 8, 9, 10, 11, 12, 13, 14, 15, 16, 17, 18, 19, 20, 21, 22, 23, 24, 25, 26, 27, 28, 29, 30, 31], [0, 1, 2, 3, 4, 5, 6, 7, 8, 9, 10, 11, 12, 13, 14, 15, 16, 17, 18, 19, 20, 21, 22, 23, 24, 25, 26, 27, 28, 29, 30, 31, 32], [0, 1, 2, 3, 4, 5, 6, 7, 8, 9, 10, 11, 12, 13, 14, 15, 16, 17, 18, 19, 20, 21, 22, 23, 24, 25, 26, 27, 28, 29, 30, 31, 32, 33]], [25], [30], [0], false, []⟩
  | _, _ => ⟨[], [], [], [], [], false, []⟩
noncomputable def watershedkit_KeptInts_4_tb : List (CE CT Try.prog) := [watershedkit_mark_ce]
noncomputable def watershedkit_KeptInts_4_l1 (a : ((List (Int)) × (Nat × Nat × Nat × Nat × Unit) × (Int) × Unit) × ((List (DEntryX)) × Unit)) : Option ((((List (Int)) × (Nat × Nat × Nat × Nat × Unit) × (Int) × Unit) × ((List (DEntryX)) × Unit)) ⊕ ((((Bool) × Unit) × ((List (DEntryX)) × Unit)) ⊕ ((Unit) × ((List (DEntryX)) × Unit)))) :=
  (bif (decide ((a.1.2.2.1 : Int) < ((a.1.2.1.2.2.1 : Nat) : Int))) then
  (bif (decide ((a.1.2.2.1 : Int) < (a.1.1.length : Int))) then
  (if 0 ≤ (a.1.2.2.1 : Int) ∧ (a.1.2.2.1 : Int) < ((a.1.2.1.2.2.1 : Nat) : Int) then
  (getI a.1.1 a.1.2.2.1).bind fun e1 =>
  (a.2.1[a.1.2.1.1]?).bind fun e2 =>
  ((e2.config.want.1 ++ e2.config.want.2)[(a.1.2.1.2.1 + (a.1.2.2.1 : Int).toNat)]?).bind fun e3 =>
  (bif (!(decide ((e3 : Int) = e1))) then
  some (.inr (.inl ((false, ()), (a.2.1, ()))))
  else
  (bif (decide (((a.1.1.length : Int) : Int) ≤ a.1.2.2.1)) then
  (if 0 ≤ (a.1.2.2.1 : Int) ∧ (a.1.2.2.1 : Int) < ((a.1.2.1.2.2.1 : Nat) : Int) then
  (a.2.1[a.1.2.1.1]?).bind fun e4 =>
  ((e4.config.want.1 ++ e4.config.want.2)[(a.1.2.1.2.1 + (a.1.2.2.1 : Int).toNat)]?).bind fun e5 =>
  (watershedkit_mark 1 (IntKind.i64.wrap (a.1.2.2.1 - (a.1.1.length : Int)))).bind fun r6 =>
  (bif (!(decide ((e5 : Int) = r6.1))) then
  some (.inr (.inl ((false, ()), (a.2.1, ()))))
  else
  some (.inl ((a.1.1, (a.1.2.1.1, a.1.2.1.2.1, a.1.2.1.2.2.1, a.1.2.1.2.2.2.1, ()), (IntKind.i64.wrap (a.1.2.2.1 + 1)), ()), (a.2.1, ()))))
  else none)
  else
  some (.inl ((a.1.1, (a.1.2.1.1, a.1.2.1.2.1, a.1.2.1.2.2.1, a.1.2.1.2.2.2.1, ()), (IntKind.i64.wrap (a.1.2.2.1 + 1)), ()), (a.2.1, ())))))
  else none)
  else
  (bif (decide (((a.1.1.length : Int) : Int) ≤ a.1.2.2.1)) then
  (if 0 ≤ (a.1.2.2.1 : Int) ∧ (a.1.2.2.1 : Int) < ((a.1.2.1.2.2.1 : Nat) : Int) then
  (a.2.1[a.1.2.1.1]?).bind fun e7 =>
  ((e7.config.want.1 ++ e7.config.want.2)[(a.1.2.1.2.1 + (a.1.2.2.1 : Int).toNat)]?).bind fun e8 =>
  (watershedkit_mark 1 (IntKind.i64.wrap (a.1.2.2.1 - (a.1.1.length : Int)))).bind fun r9 =>
  (bif (!(decide ((e8 : Int) = r9.1))) then
  some (.inr (.inl ((false, ()), (a.2.1, ()))))
  else
  some (.inl ((a.1.1, (a.1.2.1.1, a.1.2.1.2.1, a.1.2.1.2.2.1, a.1.2.1.2.2.2.1, ()), (IntKind.i64.wrap (a.1.2.2.1 + 1)), ()), (a.2.1, ()))))
  else none)
  else
  some (.inl ((a.1.1, (a.1.2.1.1, a.1.2.1.2.1, a.1.2.1.2.2.1, a.1.2.1.2.2.2.1, ()), (IntKind.i64.wrap (a.1.2.2.1 + 1)), ()), (a.2.1, ())))))
  else
  some (.inr (.inr ((), (a.2.1, ())))))
noncomputable def watershedkit_KeptInts_4_e1 : LE CT Try.prog := ⟨5, [1, 5, 6], [.one (.sl 0), .one (.gv 0 1566 4), .one (.int .i64)], [.gen 8 true], [⟨.ret, [4], [.one (.bool)], [.gen 8 true]⟩, ⟨.exit 0, [], [], [.gen 8 true]⟩], watershedkit_KeptInts_4_l1⟩
noncomputable def watershedkit_KeptInts_4_lt : List (LE CT Try.prog) := [watershedkit_KeptInts_4_e1]
theorem watershedkit_KeptInts_4_e1_ok : LeOk watershedkit_KeptInts_4_e1 (nthL (bodyOf Try.f70) 0) := fun A env h k z hk => le_ok (E := watershedkit_KeptInts_4_e1) (orcOfX_ok HK0 watershedkit_KeptInts_4_tb) (dr := watershedkit_KeptInts_4_dr) (lps := lpsOf watershedkit_KeptInts_4_lt) (no_loop (by kernel_rfl)) (fun a => by kernel_rfl) env h k z hk
noncomputable def watershedkit_KeptInts_4 (x0 : Nat × Nat × Nat × Nat × Unit) (x1 : List (Int)) (h0 : List (DEntryX)) : Option ((Bool) × ((List (DEntryX)) × Unit)) :=
  (bif (decide ((((x0.2.2.1 : Nat) : Int) : Int) ≠ (x1.length : Int))) then
  some (false, (h0, ()))
  else
  (if 0 ≤ (0 : Int) ∧ (0 : Int) ≤ ((IntKind.i64.wrap ((x1.length : Int) + 12)) : Int) ∧ ((IntKind.i64.wrap ((x1.length : Int) + 12)) : Int) ≤ ((x0.2.2.2.1 : Nat) : Int) ∧ ((0 : Int) = 0 ∨ (0 : Int) < ((x0.2.2.2.1 : Nat) : Int)) then
  (loopM watershedkit_KeptInts_4_l1 ((x1, (x0.1, (x0.2.1 + (0 : Int).toNat), (((IntKind.i64.wrap ((x1.length : Int) + 12)) : Int).toNat - (0 : Int).toNat), (x0.2.2.2.1 - (0 : Int).toNat), ()), 0, ()), (h0, ()))).bind fun b1 =>
  (match b1 with
  | .inl b2 =>
  some (b2.1.1, (b2.2.1, ()))
  | .inr b3 =>
  some (true, (b3.2.1, ())))
  else none))
noncomputable def watershedkit_KeptInts_4_ce : CE CT Try.prog where
  f := 70
  args := [.one (.gv 0 1566 4), .one (.sl 0)]
  hs := [.gen 8 true]
  res := .val (.one (.bool))
  outs := [.gen 8 true]
  m := fun d dh => watershedkit_KeptInts_4 d.1 d.2.1 dh.1
  ok := ce_ok mixedP Try.func70 (by kernel_rfl) (orcOfX_ok HK0 watershedkit_KeptInts_4_tb) (dr := watershedkit_KeptInts_4_dr) (lps := lpsOf watershedkit_KeptInts_4_lt) (lps_fn (lps_of (n := 1) (by kernel_rfl) fun i hi => match i, hi with | 0, _ => lp_ok (E := watershedkit_KeptInts_4_e1) (by kernel_rfl) watershedkit_KeptInts_4_e1_ok)) (fun d dh => by kernel_rfl)

def watershedkit_KeptConfig_dr : Nat → Nat → DrA
  | _, _ => ⟨[], [], [], [], [], false, []⟩
noncomputable def watershedkit_KeptConfig_tb : List (CE CT Try.prog) := [watershedkit_SameConfig_4_ce, watershedkit_KeptInts_ce, watershedkit_KeptInts_2_ce, watershedkit_KeptInts_3_ce, watershedkit_KeptInts_4_ce]
noncomputable def watershedkit_KeptConfig_lt : List (LE CT Try.prog) := []
noncomputable def watershedkit_KeptConfig (x0 : (Nat × Nat × Nat × Nat × Unit) × (Nat × Nat × Nat × Nat × Unit) × (Nat × Nat × Nat × Nat × Unit) × (Nat × Nat × Nat × Nat × Unit) × Unit) (x1 : DConfig) (h0 : List (DEntryX)) : Option ((Bool) × ((List (DEntryX)) × Unit)) :=
  (watershedkit_SameConfig_4 ((x0.1.1, x0.1.2.1, x0.1.2.2.1, x0.1.2.2.2.1, ()), (x0.2.1.1, x0.2.1.2.1, x0.2.1.2.2.1, x0.2.1.2.2.2.1, ()), (x0.2.2.1.1, x0.2.2.1.2.1, x0.2.2.1.2.2.1, x0.2.2.1.2.2.2.1, ()), (x0.2.2.2.1.1, x0.2.2.2.1.2.1, x0.2.2.2.1.2.2.1, x0.2.2.2.1.2.2.2.1, ()), ()) x1 h0).bind fun r1 =>
  (bif r1.1 then
  (watershedkit_KeptInts (x0.1.1, x0.1.2.1, x0.1.2.2.1, x0.1.2.2.2.1, ()) x1.voters r1.2.1).bind fun r2 =>
  (bif r2.1 then
  (watershedkit_KeptInts_2 (x0.2.1.1, x0.2.1.2.1, x0.2.1.2.2.1, x0.2.1.2.2.2.1, ()) x1.old r2.2.1).bind fun r3 =>
  (bif r3.1 then
  (watershedkit_KeptInts_3 (x0.2.2.1.1, x0.2.2.1.2.1, x0.2.2.1.2.2.1, x0.2.2.1.2.2.2.1, ()) x1.learners r3.2.1).bind fun r4 =>
  (bif r4.1 then
  (watershedkit_KeptInts_4 (x0.2.2.2.1.1, x0.2.2.2.1.2.1, x0.2.2.2.1.2.2.1, x0.2.2.2.1.2.2.2.1, ()) x1.want r4.2.1).bind fun r5 =>
  some (r5.1, (r5.2.1, ()))
  else
  some (false, (r4.2.1, ())))
  else
  some (false, (r3.2.1, ())))
  else
  some (false, (r2.2.1, ())))
  else
  some (false, (r1.2.1, ())))
noncomputable def watershedkit_KeptConfig_ce : CE CT Try.prog where
  f := 63
  args := [.agg [.gv 0 798 4, .gv 0 1054 4, .gv 0 1310 4, .gv 0 1566 4], .cod 15]
  hs := [.gen 8 true]
  res := .val (.one (.bool))
  outs := [.gen 8 true]
  m := fun d dh => watershedkit_KeptConfig d.1 d.2.1 dh.1
  ok := ce_ok mixedP Try.func63 (by kernel_rfl) (orcOf_ok watershedkit_KeptConfig_tb) (dr := watershedkit_KeptConfig_dr) (lps := lpsOf watershedkit_KeptConfig_lt) (lps_fn (no_loop (by kernel_rfl))) (fun d dh => by kernel_rfl)

def watershedkit_KeptEntry_dr : Nat → Nat → DrA
  | _, _ => ⟨[], [], [], [], [], false, []⟩
noncomputable def watershedkit_KeptEntry_tb : List (CE CT Try.prog) := [watershedkit_SameEntry_2_ce, watershedkit_KeptBytes_ce, watershedkit_KeptConfig_ce]
noncomputable def watershedkit_KeptEntry_lt : List (LE CT Try.prog) := []
noncomputable def watershedkit_KeptEntry (x0 : (Int) × (Int) × (Nat × Nat × Nat × Nat × Unit) × (Nat × Nat × Nat × Nat × Unit) × (Nat × Nat × Nat × Nat × Unit) × (Nat × Nat × Nat × Nat × Unit) × (Nat × Nat × Nat × Nat × Unit) × Unit) (x1 : DEntry) (h0 : List (DEntryX)) : Option ((Bool) × ((List (DEntryX)) × Unit)) :=
  (watershedkit_SameEntry_2 (x0.1, x0.2.1, (x0.2.2.1.1, x0.2.2.1.2.1, x0.2.2.1.2.2.1, x0.2.2.1.2.2.2.1, ()), (x0.2.2.2.1.1, x0.2.2.2.1.2.1, x0.2.2.2.1.2.2.1, x0.2.2.2.1.2.2.2.1, ()), (x0.2.2.2.2.1.1, x0.2.2.2.2.1.2.1, x0.2.2.2.2.1.2.2.1, x0.2.2.2.2.1.2.2.2.1, ()), (x0.2.2.2.2.2.1.1, x0.2.2.2.2.2.1.2.1, x0.2.2.2.2.2.1.2.2.1, x0.2.2.2.2.2.1.2.2.2.1, ()), (x0.2.2.2.2.2.2.1.1, x0.2.2.2.2.2.2.1.2.1, x0.2.2.2.2.2.2.1.2.2.1, x0.2.2.2.2.2.2.1.2.2.2.1, ()), ()) x1 h0).bind fun r1 =>
  (bif r1.1 then
  (watershedkit_KeptBytes (x0.2.2.1.1, x0.2.2.1.2.1, x0.2.2.1.2.2.1, x0.2.2.1.2.2.2.1, ()) x1.command r1.2.1).bind fun r2 =>
  (bif r2.1 then
  (watershedkit_KeptConfig ((x0.2.2.2.1.1, x0.2.2.2.1.2.1, x0.2.2.2.1.2.2.1, x0.2.2.2.1.2.2.2.1, ()), (x0.2.2.2.2.1.1, x0.2.2.2.2.1.2.1, x0.2.2.2.2.1.2.2.1, x0.2.2.2.2.1.2.2.2.1, ()), (x0.2.2.2.2.2.1.1, x0.2.2.2.2.2.1.2.1, x0.2.2.2.2.2.1.2.2.1, x0.2.2.2.2.2.1.2.2.2.1, ()), (x0.2.2.2.2.2.2.1.1, x0.2.2.2.2.2.2.1.2.1, x0.2.2.2.2.2.2.1.2.2.1, x0.2.2.2.2.2.2.1.2.2.2.1, ()), ()) x1.config r2.2.1).bind fun r3 =>
  some (r3.1, (r3.2.1, ()))
  else
  some (false, (r2.2.1, ())))
  else
  some (false, (r1.2.1, ())))
noncomputable def watershedkit_KeptEntry_ce : CE CT Try.prog where
  f := 62
  args := [.agg [.int .i64, .int .u8, .gv 0 542 4, .gv 0 798 4, .gv 0 1054 4, .gv 0 1310 4, .gv 0 1566 4], .cod 16]
  hs := [.gen 8 true]
  res := .val (.one (.bool))
  outs := [.gen 8 true]
  m := fun d dh => watershedkit_KeptEntry d.1 d.2.1 dh.1
  ok := ce_ok mixedP Try.func62 (by kernel_rfl) (orcOf_ok watershedkit_KeptEntry_tb) (dr := watershedkit_KeptEntry_dr) (lps := lpsOf watershedkit_KeptEntry_lt) (lps_fn (no_loop (by kernel_rfl))) (fun d dh => by kernel_rfl)

def watershedkit_KeptEntries_dr : Nat → Nat → DrA
  | 7, _ => ⟨[0, 1, 2, 3, 4, 5, 6, 7, 9, 10, 11, 8, 12, 13, 14, 15, 16, 17, 18, 19, 20, 21, 22, 23, 24, 26, 27, 28, 29, 25, 30, 31, 32, 33, 34], [[], [], [1], [0, 1, 2], [0, 1, 2, 3], [0, 1, 2, 3, 4], [0, 1, 2, 3, 4], [0, 1, 2, 3, 4, 5, 6], [0, 1, 2, 3, 4, 5, 6, 7], [0, 1, 2, 3, 4], [0, 1, 2, 3, 4], [0, 1, 2, 3, 4, 9, 10], [0, 1, 2, 3, 4, 9, 10, 11], [0, 1, 2, 3, 4, 5, 6, 7, 8, 9, 10, 11, 12], [0, 1, 2, 3, 4, 5, 6, 7, 8, 9, 10, 11, 12, 13], [0, 1, 2, 3, 4, 5, 6, 7, 8, 9, 10, 11, 12, 13, 14], [0, 1, 2, 3, 4, 5, 6, 7, 8, 9, 10, 11, 12, 13, 14, 15], [0, 1, 2, 3, 4, 5, 6, 7, 8, 9, 10, 11, 12, 13, 14, 15, 16], [0, 1, 2, 3, 4, 5, 6, 7, 8, 9, 10, 11, 12, 13, 14, 15, 16], [0, 1, 2, 3, 4, 5, 6, 7, 8, 9, 10, 11, 12, 13, 14, 15, 16, 18], [0, 1, 2, 3, 4, 5, 6, 7, 8, 9, 10, 11, 12, 13, 14, 15, 16, 17, 18, 19], [0, 1, 2, 3, 4, 5, 6, 7, 8, 9, 10, 11, 12, 13, 14, 15, 16, 17, 18, 19, 20], [0, 1, 2, 3, 4, 5, 6, 7, 8, 9, 10, 11, 12, 13, 14, 15, 16, 17, 18, 19, 20, 21], [0, 1, 2, 3, 4, 5, 6, 7, 8, 9, 10, 11, 12, 13, 14, 15, 16, 17, 18, 19, 20, 21], [0, 1, 2, 3, 4, 5, 6, 7, 8, 9, 10, 11, 12, 13, 14, 15, 16, 17, 18, 19, 20, 21, 22, 23], [0, 1, 2, 3, 4, 5, 6, 7, 8, 9, 10, 11, 12, 13, 14, 15, 16, 17, 18, 19, 20, 21, 22, 23, 24], [0, 1, 2, 3, 4, 5, 6, 7, 8, 9, 10, 11, 12, 13, 14, 15, 16, 17, 18, 19, 20, 21], [0, 1, 2, 3, 4, 5, 6, 7, 8, 9, 10, 11, 12, 13, 14, 15, 16, 17, 18, 19, 20, 21], [0, 1, 2, 3, 4, 5, 6, 7, 8, 9, 10, 11, 12, 13, 14, 15, 16, 17, 18, 19, 20, 21, 27], [0, 1, 2, 3, 4, 5, 6, 7, 8, 9, 10, 11, 12, 13, 14, 15, 16, 17, 18, 19, 20, 21, 26, 27, 28], [0, 1, 2, 3, 4, 5, 6, 7, 8, 9, 10, 11, 12, 13, 14, 15, 16, 17, 18, 19, 20, 21, 26, 27, 28, 29], [0, 1, 2, 3, 4, 5, 6, 7, 8, 9, 10, 11, 12, 13, 14, 15, 16, 17, 18, 19, 20, 21, 22, 23, 24, 25, 26, 27, 28, 29, 30], [0, 1, 2, 3, 4, 5, 6, 7, 8, 9, 10, 11, 12, 13, 14, 15, 16, 17, 18, 19, 20, 21, 22, 23, 24, 25, 26, 27, 28, 29, 30, 31], [0, 1, 2, 3, 4, 5, 6, 7, 8, 9, 10, 11, 12, 13, 14, 15, 16, 17, 18, 19, 20, 21, 22, 23, 24, 25, 26, 27, 28, 29, 30, 31, 32], [0, 1, 2, 3, 4, 5, 6, 7, 8, 9, 10, 11, 12, 13, 14, 15, 16, 17, 18, 19, 20, 21, 22, 23, 24, 25, 26, 27, 28, 29, 30, 31, 32, 33]], [25], [30], [0], false, []⟩
  | _, _ => ⟨[], [], [], [], [], false, []⟩
noncomputable def watershedkit_KeptEntries_tb : List (CE CT Try.prog) := [watershedkit_KeptEntry_ce, watershedkit_markEntry_ce, watershedkit_SameEntry_2_ce]
noncomputable def watershedkit_KeptEntries_l1 (a : ((List (DEntry)) × (Nat × Nat × Nat × Unit) × (Int) × Unit) × ((List (DEntryX)) × Unit)) : Option ((((List (DEntry)) × (Nat × Nat × Nat × Unit) × (Int) × Unit) × ((List (DEntryX)) × Unit)) ⊕ ((((Bool) × Unit) × ((List (DEntryX)) × Unit)) ⊕ ((Unit) × ((List (DEntryX)) × Unit)))) :=
  (bif (decide ((a.1.2.2.1 : Int) < ((a.1.2.1.2.1 : Nat) : Int))) then
  (bif (decide ((a.1.2.2.1 : Int) < (a.1.1.length : Int))) then
  (if 0 ≤ (a.1.2.2.1 : Int) ∧ (a.1.2.2.1 : Int) < ((a.1.2.1.2.1 : Nat) : Int) then
  (getI a.1.1 a.1.2.2.1).bind fun e1 =>
  (a.2.1[(a.1.2.1.1 + (a.1.2.2.1 : Int).toNat)]?).bind fun e2 =>
  (watershedkit_KeptEntry (e2.term_, e2.kind, ((a.1.2.1.1 + (a.1.2.2.1 : Int).toNat), 0, e2.command.1.length, (e2.command.1.length + e2.command.2.length), ()), ((a.1.2.1.1 + (a.1.2.2.1 : Int).toNat), 0, e2.config.voters.1.length, (e2.config.voters.1.length + e2.config.voters.2.length), ()), ((a.1.2.1.1 + (a.1.2.2.1 : Int).toNat), 0, e2.config.old.1.length, (e2.config.old.1.length + e2.config.old.2.length), ()), ((a.1.2.1.1 + (a.1.2.2.1 : Int).toNat), 0, e2.config.learners.1.length, (e2.config.learners.1.length + e2.config.learners.2.length), ()), ((a.1.2.1.1 + (a.1.2.2.1 : Int).toNat), 0, e2.config.want.1.length, (e2.config.want.1.length + e2.config.want.2.length), ()), ()) e1 a.2.1).bind fun r3 =>
  (bif (!r3.1) then
  some (.inr (.inl ((false, ()), (r3.2.1, ()))))
  else
  (bif (decide (((a.1.1.length : Int) : Int) ≤ a.1.2.2.1)) then
  (if 0 ≤ (a.1.2.2.1 : Int) ∧ (a.1.2.2.1 : Int) < ((a.1.2.1.2.1 : Nat) : Int) then
  (r3.2.1[(a.1.2.1.1 + (a.1.2.2.1 : Int).toNat)]?).bind fun e4 =>
  (watershedkit_markEntry 1 (IntKind.i64.wrap (a.1.2.2.1 - (a.1.1.length : Int)))).bind fun r5 =>
  (watershedkit_SameEntry_2 (e4.term_, e4.kind, ((a.1.2.1.1 + (a.1.2.2.1 : Int).toNat), 0, e4.command.1.length, (e4.command.1.length + e4.command.2.length), ()), ((a.1.2.1.1 + (a.1.2.2.1 : Int).toNat), 0, e4.config.voters.1.length, (e4.config.voters.1.length + e4.config.voters.2.length), ()), ((a.1.2.1.1 + (a.1.2.2.1 : Int).toNat), 0, e4.config.old.1.length, (e4.config.old.1.length + e4.config.old.2.length), ()), ((a.1.2.1.1 + (a.1.2.2.1 : Int).toNat), 0, e4.config.learners.1.length, (e4.config.learners.1.length + e4.config.learners.2.length), ()), ((a.1.2.1.1 + (a.1.2.2.1 : Int).toNat), 0, e4.config.want.1.length, (e4.config.want.1.length + e4.config.want.2.length), ()), ()) (⟨r5.1.1, r5.1.2.1, [], (⟨[], [], [], []⟩ : DConfig)⟩ : DEntry) r3.2.1).bind fun r6 =>
  (bif (!r6.1) then
  some (.inr (.inl ((false, ()), (r6.2.1, ()))))
  else
  some (.inl ((a.1.1, (a.1.2.1.1, a.1.2.1.2.1, a.1.2.1.2.2.1, ()), (IntKind.i64.wrap (a.1.2.2.1 + 1)), ()), (r6.2.1, ()))))
  else none)
  else
  some (.inl ((a.1.1, (a.1.2.1.1, a.1.2.1.2.1, a.1.2.1.2.2.1, ()), (IntKind.i64.wrap (a.1.2.2.1 + 1)), ()), (r3.2.1, ())))))
  else none)
  else
  (bif (decide (((a.1.1.length : Int) : Int) ≤ a.1.2.2.1)) then
  (if 0 ≤ (a.1.2.2.1 : Int) ∧ (a.1.2.2.1 : Int) < ((a.1.2.1.2.1 : Nat) : Int) then
  (a.2.1[(a.1.2.1.1 + (a.1.2.2.1 : Int).toNat)]?).bind fun e7 =>
  (watershedkit_markEntry 1 (IntKind.i64.wrap (a.1.2.2.1 - (a.1.1.length : Int)))).bind fun r8 =>
  (watershedkit_SameEntry_2 (e7.term_, e7.kind, ((a.1.2.1.1 + (a.1.2.2.1 : Int).toNat), 0, e7.command.1.length, (e7.command.1.length + e7.command.2.length), ()), ((a.1.2.1.1 + (a.1.2.2.1 : Int).toNat), 0, e7.config.voters.1.length, (e7.config.voters.1.length + e7.config.voters.2.length), ()), ((a.1.2.1.1 + (a.1.2.2.1 : Int).toNat), 0, e7.config.old.1.length, (e7.config.old.1.length + e7.config.old.2.length), ()), ((a.1.2.1.1 + (a.1.2.2.1 : Int).toNat), 0, e7.config.learners.1.length, (e7.config.learners.1.length + e7.config.learners.2.length), ()), ((a.1.2.1.1 + (a.1.2.2.1 : Int).toNat), 0, e7.config.want.1.length, (e7.config.want.1.length + e7.config.want.2.length), ()), ()) (⟨r8.1.1, r8.1.2.1, [], (⟨[], [], [], []⟩ : DConfig)⟩ : DEntry) a.2.1).bind fun r9 =>
  (bif (!r9.1) then
  some (.inr (.inl ((false, ()), (r9.2.1, ()))))
  else
  some (.inl ((a.1.1, (a.1.2.1.1, a.1.2.1.2.1, a.1.2.1.2.2.1, ()), (IntKind.i64.wrap (a.1.2.2.1 + 1)), ()), (r9.2.1, ()))))
  else none)
  else
  some (.inl ((a.1.1, (a.1.2.1.1, a.1.2.1.2.1, a.1.2.1.2.2.1, ()), (IntKind.i64.wrap (a.1.2.2.1 + 1)), ()), (a.2.1, ())))))
  else
  some (.inr (.inr ((), (a.2.1, ())))))
noncomputable def watershedkit_KeptEntries_e1 : LE CT Try.prog := ⟨5, [1, 5, 6], [.one (.sl 16), .one (.gv 0 28 3), .one (.int .i64)], [.gen 8 true], [⟨.ret, [4], [.one (.bool)], [.gen 8 true]⟩, ⟨.exit 0, [], [], [.gen 8 true]⟩], watershedkit_KeptEntries_l1⟩
noncomputable def watershedkit_KeptEntries_lt : List (LE CT Try.prog) := [watershedkit_KeptEntries_e1]
theorem watershedkit_KeptEntries_e1_ok : LeOk watershedkit_KeptEntries_e1 (nthL (bodyOf Try.f43) 0) := fun A env h k z hk => le_ok (E := watershedkit_KeptEntries_e1) (orcOfX_ok HK0 watershedkit_KeptEntries_tb) (dr := watershedkit_KeptEntries_dr) (lps := lpsOf watershedkit_KeptEntries_lt) (no_loop (by kernel_rfl)) (fun a => by kernel_rfl) env h k z hk
noncomputable def watershedkit_KeptEntries (x0 : Nat × Nat × Nat × Unit) (x1 : List (DEntry)) (h0 : List (DEntryX)) : Option ((Bool) × ((List (DEntryX)) × Unit)) :=
  (bif (decide ((((x0.2.1 : Nat) : Int) : Int) ≠ (x1.length : Int))) then
  some (false, (h0, ()))
  else
  (if 0 ≤ (0 : Int) ∧ (0 : Int) ≤ ((IntKind.i64.wrap ((x1.length : Int) + 12)) : Int) ∧ ((IntKind.i64.wrap ((x1.length : Int) + 12)) : Int) ≤ ((x0.2.2.1 - x0.1 : Nat) : Int) ∧ (0 : Int) < ((x0.2.2.1 - x0.1 : Nat) : Int) then
  (loopM watershedkit_KeptEntries_l1 ((x1, ((x0.1 + (0 : Int).toNat), (((IntKind.i64.wrap ((x1.length : Int) + 12)) : Int).toNat - (0 : Int).toNat), x0.2.2.1, ()), 0, ()), (h0, ()))).bind fun b1 =>
  (match b1 with
  | .inl b2 =>
  some (b2.1.1, (b2.2.1, ()))
  | .inr b3 =>
  some (true, (b3.2.1, ())))
  else none))
noncomputable def watershedkit_KeptEntries_ce : CE CT Try.prog where
  f := 43
  args := [.one (.gv 0 28 3), .one (.sl 16)]
  hs := [.gen 8 true]
  res := .val (.one (.bool))
  outs := [.gen 8 true]
  m := fun d dh => watershedkit_KeptEntries d.1 d.2.1 dh.1
  ok := ce_ok mixedP Try.func43 (by kernel_rfl) (orcOfX_ok HK0 watershedkit_KeptEntries_tb) (dr := watershedkit_KeptEntries_dr) (lps := lpsOf watershedkit_KeptEntries_lt) (lps_fn (lps_of (n := 1) (by kernel_rfl) fun i hi => match i, hi with | 0, _ => lp_ok (E := watershedkit_KeptEntries_e1) (by kernel_rfl) watershedkit_KeptEntries_e1_ok)) (fun d dh => by kernel_rfl)

def watershedkit_KeptInts_5_dr : Nat → Nat → DrA
  | 7, _ => ⟨[0, 1, 2, 3, 4, 5, 6, 7, 9, 10, 11, 8, 12, 13, 14, 15, 16, 17, 18, 19, 20, 21, 22, 23, 24, 26, 27, 28, 29, 25, 30, 31, 32, 33, 34], [[], [], [1], [0, 1, 2], [0, 1, 2, 3], [0, 1, 2, 3, 4], [0, 1, 2, 3, 4], [0, 1, 2, 3, 4, 5, 6], [0, 1, 2, 3, 4, 5, 6, 7], [0, 1, 2, 3, 4], [0, 1, 2, 3, 4], [0, 1, 2, 3, 4, 9, 10], [0, 1, 2, 3, 4, 9, 10, 11], [0, 1, 2, 3, 4, 5, 6, 7, 8, 9, 10, 11, 12], [0, 1, 2, 3, 4, 5, 6, 7, 8, 9, 10, 11, 12, 13], [0, 1, 2, 3, 4, 5, 6, 7, 8, 9, 10, 11, 12, 13, 14], [0, 1, 2, 3, 4, 5, 6, 7, 8, 9, 10, 11, 12, 13, 14, 15], [0, 1, 2, 3, 4, 5, 6, 7, 8, 9, 10, 11, 12, 13, 14, 15, 16], [0, 1, 2, 3, 4, 5, 6, 7, 8, 9, 10, 11, 12, 13, 14, 15, 16], [0, 1, 2, 3, 4, 5, 6, 7, 8, 9, 10, 11, 12, 13, 14, 15, 16, 18], [0, 1, 2, 3, 4, 5, 6, 7, 8, 9, 10, 11, 12, 13, 14, 15, 16, 17, 18, 19], [0, 1, 2, 3, 4, 5, 6, 7, 8, 9, 10, 11, 12, 13, 14, 15, 16, 17, 18, 19, 20], [0, 1, 2, 3, 4, 5, 6, 7, 8, 9, 10, 11, 12, 13, 14, 15, 16, 17, 18, 19, 20, 21], [0, 1, 2, 3, 4, 5, 6, 7, 8, 9, 10, 11, 12, 13, 14, 15, 16, 17, 18, 19, 20, 21], [0, 1, 2, 3, 4, 5, 6, 7, 8, 9, 10, 11, 12, 13, 14, 15, 16, 17, 18, 19, 20, 21, 22, 23], [0, 1, 2, 3, 4, 5, 6, 7, 8, 9, 10, 11, 12, 13, 14, 15, 16, 17, 18, 19, 20, 21, 22, 23, 24], [0, 1, 2, 3, 4, 5, 6, 7, 8, 9, 10, 11, 12, 13, 14, 15, 16, 17, 18, 19, 20, 21], [0, 1, 2, 3, 4, 5, 6, 7, 8, 9, 10, 11, 12, 13, 14, 15, 16, 17, 18, 19, 20, 21], [0, 1, 2, 3, 4, 5, 6, 7, 8, 9, 10, 11, 12, 13, 14, 15, 16, 17, 18, 19, 20, 21, 27], [0, 1, 2, 3, 4, 5, 6, 7, 8, 9, 10, 11, 12, 13, 14, 15, 16, 17, 18, 19, 20, 21, 26, 27, 28], [0, 1, 2, 3, 4, 5, 6, 7, 8, 9, 10, 11, 12, 13, 14, 15, 16, 17, 18, 19, 20, 21, 26, 27, 28, 29], [0, 1, 2, 3, 4, 5, 6, 7, 8, 9, 10, 11, 12, 13, 14, 15, 16, 17, 18, 19, 20, 21, 22, 23, 24, 25, 26, 27, 28, 29, 30], [0, 1, 2, 3, 4, 5, 6, 7, 8, 9, 10, 11, 12, 13, 14, 15, 16, 17, 18, 19, 20, 21, 22, 23, 24, 25, 26, 27, 28, 29, 30, 31], [0, 1, 2, 3, 4, 5, 6, 7, 8, 9, 10, 11, 12, 13, 14, 15, 16, 17, 18, 19, 20, 21, 22, 23, 24, 25, 26, 27, 28, 29, 30, 31, 32], [0, 1, 2, 3, 4, 5, 6, 7, 8, 9, 10, 11, 12, 13, 14, 15, 16, 17, 18, 19, 20, 21, 22, 23, 24, 25, 26, 27, 28, 29, 30, 31, 32, 33]], [25], [30], [0], false, []⟩
  | _, _ => ⟨[], [], [], [], [], false, []⟩
noncomputable def watershedkit_KeptInts_5_tb : List (CE CT Try.prog) := [watershedkit_mark_ce]
noncomputable def watershedkit_KeptInts_5_l1 (a : ((List (Int)) × (Nat × Nat × Nat) × (Int) × Unit) × ((List (Int)) × Unit)) : Option ((((List (Int)) × (Nat × Nat × Nat) × (Int) × Unit) × ((List (Int)) × Unit)) ⊕ ((((Bool) × Unit) × ((List (Int)) × Unit)) ⊕ ((Unit) × ((List (Int)) × Unit)))) :=
  (bif (decide ((a.1.2.2.1 : Int) < ((a.1.2.1.2.1 : Nat) : Int))) then
  (bif (decide ((a.1.2.2.1 : Int) < (a.1.1.length : Int))) then
  (if 0 ≤ (a.1.2.2.1 : Int) ∧ (a.1.2.2.1 : Int) < ((a.1.2.1.2.1 : Nat) : Int) then
  (getI a.1.1 a.1.2.2.1).bind fun e1 =>
  (a.2.1[(a.1.2.1.1 + (a.1.2.2.1 : Int).toNat)]?).bind fun e2 =>
  (bif (!(decide ((e2 : Int) = e1))) then
  some (.inr (.inl ((false, ()), (a.2.1, ()))))
  else
  (bif (decide (((a.1.1.length : Int) : Int) ≤ a.1.2.2.1)) then
  (if 0 ≤ (a.1.2.2.1 : Int) ∧ (a.1.2.2.1 : Int) < ((a.1.2.1.2.1 : Nat) : Int) then
  (a.2.1[(a.1.2.1.1 + (a.1.2.2.1 : Int).toNat)]?).bind fun e3 =>
  (watershedkit_mark 1 (IntKind.i64.wrap (a.1.2.2.1 - (a.1.1.length : Int)))).bind fun r4 =>
  (bif (!(decide ((e3 : Int) = r4.1))) then
  some (.inr (.inl ((false, ()), (a.2.1, ()))))
  else
  some (.inl ((a.1.1, (a.1.2.1.1, a.1.2.1.2.1, a.1.2.1.2.2), (IntKind.i64.wrap (a.1.2.2.1 + 1)), ()), (a.2.1, ()))))
  else none)
  else
  some (.inl ((a.1.1, (a.1.2.1.1, a.1.2.1.2.1, a.1.2.1.2.2), (IntKind.i64.wrap (a.1.2.2.1 + 1)), ()), (a.2.1, ())))))
  else none)
  else
  (bif (decide (((a.1.1.length : Int) : Int) ≤ a.1.2.2.1)) then
  (if 0 ≤ (a.1.2.2.1 : Int) ∧ (a.1.2.2.1 : Int) < ((a.1.2.1.2.1 : Nat) : Int) then
  (a.2.1[(a.1.2.1.1 + (a.1.2.2.1 : Int).toNat)]?).bind fun e5 =>
  (watershedkit_mark 1 (IntKind.i64.wrap (a.1.2.2.1 - (a.1.1.length : Int)))).bind fun r6 =>
  (bif (!(decide ((e5 : Int) = r6.1))) then
  some (.inr (.inl ((false, ()), (a.2.1, ()))))
  else
  some (.inl ((a.1.1, (a.1.2.1.1, a.1.2.1.2.1, a.1.2.1.2.2), (IntKind.i64.wrap (a.1.2.2.1 + 1)), ()), (a.2.1, ()))))
  else none)
  else
  some (.inl ((a.1.1, (a.1.2.1.1, a.1.2.1.2.1, a.1.2.1.2.2), (IntKind.i64.wrap (a.1.2.2.1 + 1)), ()), (a.2.1, ())))))
  else
  some (.inr (.inr ((), (a.2.1, ())))))
noncomputable def watershedkit_KeptInts_5_e1 : LE CT Try.prog := ⟨5, [1, 5, 6], [.one (.sl 0), .one (.as 0 0), .one (.int .i64)], [.arr 3 0 true], [⟨.ret, [4], [.one (.bool)], [.arr 3 0 true]⟩, ⟨.exit 0, [], [], [.arr 3 0 true]⟩], watershedkit_KeptInts_5_l1⟩
noncomputable def watershedkit_KeptInts_5_lt : List (LE CT Try.prog) := [watershedkit_KeptInts_5_e1]
theorem watershedkit_KeptInts_5_e1_ok : LeOk watershedkit_KeptInts_5_e1 (nthL (bodyOf Try.f70) 0) := fun A env h k z hk => le_ok (E := watershedkit_KeptInts_5_e1) (orcOf_ok watershedkit_KeptInts_5_tb) (dr := watershedkit_KeptInts_5_dr) (lps := lpsOf watershedkit_KeptInts_5_lt) (no_loop (by kernel_rfl)) (fun a => by kernel_rfl) env h k z hk
noncomputable def watershedkit_KeptInts_5 (x0 : Nat × Nat × Nat) (x1 : List (Int)) (h0 : List (Int)) : Option ((Bool) × ((List (Int)) × Unit)) :=
  (bif (decide ((((x0.2.1 : Nat) : Int) : Int) ≠ (x1.length : Int))) then
  some (false, (h0, ()))
  else
  (if 0 ≤ ((0 : Int) : Int) ∧ ((0 : Int) : Int) ≤ ((IntKind.i64.wrap ((x1.length : Int) + 12)) : Int) ∧ ((IntKind.i64.wrap ((x1.length : Int) + 12)) : Int) ≤ ((x0.2.2 : Nat) : Int) ∧ ((IntKind.i64.wrap ((x1.length : Int) + 12)) : Int) ≤ 140737488355328 then
  (loopM watershedkit_KeptInts_5_l1 ((x1, ((x0.1 + (0 : Int).toNat), (((IntKind.i64.wrap ((x1.length : Int) + 12)) : Int).toNat - (0 : Int).toNat), (x0.2.2 - (0 : Int).toNat)), 0, ()), (h0, ()))).bind fun b1 =>
  (match b1 with
  | .inl b2 =>
  some (b2.1.1, (b2.2.1, ()))
  | .inr b3 =>
  some (true, (b3.2.1, ())))
  else none))
noncomputable def watershedkit_KeptInts_5_ce : CE CT Try.prog where
  f := 70
  args := [.one (.as 0 0), .one (.sl 0)]
  hs := [.arr 3 0 true]
  res := .val (.one (.bool))
  outs := [.arr 3 0 true]
  m := fun d dh => watershedkit_KeptInts_5 d.1 d.2.1 dh.1
  ok := ce_ok mixedP Try.func70 (by kernel_rfl) (orcOf_ok watershedkit_KeptInts_5_tb) (dr := watershedkit_KeptInts_5_dr) (lps := lpsOf watershedkit_KeptInts_5_lt) (lps_fn (lps_of (n := 1) (by kernel_rfl) fun i hi => match i, hi with | 0, _ => lp_ok (E := watershedkit_KeptInts_5_e1) (by kernel_rfl) watershedkit_KeptInts_5_e1_ok)) (fun d dh => by kernel_rfl)

def watershedkit_KeptConfig_2_dr : Nat → Nat → DrA
  | _, _ => ⟨[], [], [], [], [], false, []⟩
noncomputable def watershedkit_KeptConfig_2_tb : List (CE CT Try.prog) := [watershedkit_SameConfig_5_ce, watershedkit_KeptInts_5_ce]
noncomputable def watershedkit_KeptConfig_2_lt : List (LE CT Try.prog) := []
noncomputable def watershedkit_KeptConfig_2 (x0 : (Nat × Nat × Nat) × (Nat × Nat × Nat) × (Nat × Nat × Nat) × (Nat × Nat × Nat) × Unit) (x1 : DConfig) (h0 : List (Int)) (h1 : List (Int)) (h2 : List (Int)) (h3 : List (Int)) : Option ((Bool) × ((List (Int)) × (List (Int)) × (List (Int)) × (List (Int)) × Unit)) :=
  (watershedkit_SameConfig_5 ((x0.1.1, x0.1.2.1, x0.1.2.2), (x0.2.1.1, x0.2.1.2.1, x0.2.1.2.2), (x0.2.2.1.1, x0.2.2.1.2.1, x0.2.2.1.2.2), (x0.2.2.2.1.1, x0.2.2.2.1.2.1, x0.2.2.2.1.2.2), ()) x1 h0 h1 h2 h3).bind fun r1 =>
  (bif r1.1 then
  (watershedkit_KeptInts_5 (x0.1.1, x0.1.2.1, x0.1.2.2) x1.voters r1.2.1).bind fun r2 =>
  (bif r2.1 then
  (watershedkit_KeptInts_5 (x0.2.1.1, x0.2.1.2.1, x0.2.1.2.2) x1.old r1.2.2.1).bind fun r3 =>
  (bif r3.1 then
  (watershedkit_KeptInts_5 (x0.2.2.1.1, x0.2.2.1.2.1, x0.2.2.1.2.2) x1.learners r1.2.2.2.1).bind fun r4 =>
  (bif r4.1 then
  (watershedkit_KeptInts_5 (x0.2.2.2.1.1, x0.2.2.2.1.2.1, x0.2.2.2.1.2.2) x1.want r1.2.2.2.2.1).bind fun r5 =>
  some (r5.1, (r2.2.1, r3.2.1, r4.2.1, r5.2.1, ()))
  else
  some (false, (r2.2.1, r3.2.1, r4.2.1, r1.2.2.2.2.1, ())))
  else
  some (false, (r2.2.1, r3.2.1, r1.2.2.2.1, r1.2.2.2.2.1, ())))
  else
  some (false, (r2.2.1, r1.2.2.1, r1.2.2.2.1, r1.2.2.2.2.1, ())))
  else
  some (false, (r1.2.1, r1.2.2.1, r1.2.2.2.1, r1.2.2.2.2.1, ())))
noncomputable def watershedkit_KeptConfig_2_ce : CE CT Try.prog where
  f := 63
  args := [.agg [.as 0 0, .as 0 1, .as 0 2, .as 0 3], .cod 15]
  hs := [.arr 3 0 true, .arr 3 0 true, .arr 3 0 true, .arr 3 0 true]
  res := .val (.one (.bool))
  outs := [.arr 3 0 true, .arr 3 0 true, .arr 3 0 true, .arr 3 0 true]
  m := fun d dh => watershedkit_KeptConfig_2 d.1 d.2.1 dh.1 dh.2.1 dh.2.2.1 dh.2.2.2.1
  ok := ce_ok mixedP Try.func63 (by kernel_rfl) (orcOf_ok watershedkit_KeptConfig_2_tb) (dr := watershedkit_KeptConfig_2_dr) (lps := lpsOf watershedkit_KeptConfig_2_lt) (lps_fn (no_loop (by kernel_rfl))) (fun d dh => by kernel_rfl)

def watershedkit_KeptBase_dr : Nat → Nat → DrA
  | _, _ => ⟨[], [], [], [], [], false, []⟩
noncomputable def watershedkit_KeptBase_tb : List (CE CT Try.prog) := [watershedkit_SameBase_3_ce, watershedkit_KeptConfig_2_ce]
noncomputable def watershedkit_KeptBase_lt : List (LE CT Try.prog) := []
noncomputable def watershedkit_KeptBase (x0 : (Int) × (Int) × (Nat × Nat × Nat) × (Nat × Nat × Nat) × (Nat × Nat × Nat) × (Nat × Nat × Nat) × Unit) (x1 : DBase) (h0 : List (Int)) (h1 : List (Int)) (h2 : List (Int)) (h3 : List (Int)) : Option ((Bool) × ((List (Int)) × (List (Int)) × (List (Int)) × (List (Int)) × Unit)) :=
  (watershedkit_SameBase_3 (x0.1, x0.2.1, (x0.2.2.1.1, x0.2.2.1.2.1, x0.2.2.1.2.2), (x0.2.2.2.1.1, x0.2.2.2.1.2.1, x0.2.2.2.1.2.2), (x0.2.2.2.2.1.1, x0.2.2.2.2.1.2.1, x0.2.2.2.2.1.2.2), (x0.2.2.2.2.2.1.1, x0.2.2.2.2.2.1.2.1, x0.2.2.2.2.2.1.2.2), ()) x1 h0 h1 h2 h3).bind fun r1 =>
  (bif r1.1 then
  (watershedkit_KeptConfig_2 ((x0.2.2.1.1, x0.2.2.1.2.1, x0.2.2.1.2.2), (x0.2.2.2.1.1, x0.2.2.2.1.2.1, x0.2.2.2.1.2.2), (x0.2.2.2.2.1.1, x0.2.2.2.2.1.2.1, x0.2.2.2.2.1.2.2), (x0.2.2.2.2.2.1.1, x0.2.2.2.2.2.1.2.1, x0.2.2.2.2.2.1.2.2), ()) x1.config r1.2.1 r1.2.2.1 r1.2.2.2.1 r1.2.2.2.2.1).bind fun r2 =>
  some (r2.1, (r2.2.1, r2.2.2.1, r2.2.2.2.1, r2.2.2.2.2.1, ()))
  else
  some (false, (r1.2.1, r1.2.2.1, r1.2.2.2.1, r1.2.2.2.2.1, ())))
noncomputable def watershedkit_KeptBase_ce : CE CT Try.prog where
  f := 44
  args := [.agg [.int .i64, .int .i64, .as 0 0, .as 0 1, .as 0 2, .as 0 3], .cod 18]
  hs := [.arr 3 0 true, .arr 3 0 true, .arr 3 0 true, .arr 3 0 true]
  res := .val (.one (.bool))
  outs := [.arr 3 0 true, .arr 3 0 true, .arr 3 0 true, .arr 3 0 true]
  m := fun d dh => watershedkit_KeptBase d.1 d.2.1 dh.1 dh.2.1 dh.2.2.1 dh.2.2.2.1
  ok := ce_ok mixedP Try.func44 (by kernel_rfl) (orcOf_ok watershedkit_KeptBase_tb) (dr := watershedkit_KeptBase_dr) (lps := lpsOf watershedkit_KeptBase_lt) (lps_fn (no_loop (by kernel_rfl))) (fun d dh => by kernel_rfl)

def watershedkit_KeptBytes_2_dr : Nat → Nat → DrA
  | 7, _ => ⟨[0, 1, 2, 3, 4, 5, 6, 7, 9, 10, 11, 8, 12, 13, 14, 15, 16, 17, 18, 19, 20, 21, 22, 23, 24, 26, 27, 28, 29, 25, 30, 31, 32, 33, 34], [[], [], [1], [0, 1, 2], [0, 1, 2, 3], [0, 1, 2, 3, 4], [0, 1, 2, 3, 4], [0, 1, 2, 3, 4, 5, 6], [0, 1, 2, 3, 4, 5, 6, 7], [0, 1, 2, 3, 4], [0, 1, 2, 3, 4], [0, 1, 2, 3, 4, 9, 10], [0, 1, 2, 3, 4, 9, 10, 11], [0, 1, 2, 3, 4, 5, 6, 7, 8, 9, 10, 11, 12], [0, 1, 2, 3, 4, 5, 6, 7, 8, 9, 10, 11, 12, 13], [0, 1, 2, 3, 4, 5, 6, 7, 8, 9, 10, 11, 12, 13, 14], [0, 1, 2, 3, 4, 5, 6, 7, 8, 9, 10, 11, 12, 13, 14, 15], [0, 1, 2, 3, 4, 5, 6, 7, 8, 9, 10, 11, 12, 13, 14, 15, 16], [0, 1, 2, 3, 4, 5, 6, 7, 8, 9, 10, 11, 12, 13, 14, 15, 16], [0, 1, 2, 3, 4, 5, 6, 7, 8, 9, 10, 11, 12, 13, 14, 15, 16, 18], [0, 1, 2, 3, 4, 5, 6, 7, 8, 9, 10, 11, 12, 13, 14, 15, 16, 17, 18, 19], [0, 1, 2, 3, 4, 5, 6, 7, 8, 9, 10, 11, 12, 13, 14, 15, 16, 17, 18, 19, 20], [0, 1, 2, 3, 4, 5, 6, 7, 8, 9, 10, 11, 12, 13, 14, 15, 16, 17, 18, 19, 20, 21], [0, 1, 2, 3, 4, 5, 6, 7, 8, 9, 10, 11, 12, 13, 14, 15, 16, 17, 18, 19, 20, 21], [0, 1, 2, 3, 4, 5, 6, 7, 8, 9, 10, 11, 12, 13, 14, 15, 16, 17, 18, 19, 20, 21, 22, 23], [0, 1, 2, 3, 4, 5, 6, 7, 8, 9, 10, 11, 12, 13, 14, 15, 16, 17, 18, 19, 20, 21, 22, 23, 24], [0, 1, 2, 3, 4, 5, 6, 7, 8, 9, 10, 11, 12, 13, 14, 15, 16, 17, 18, 19, 20, 21], [0, 1, 2, 3, 4, 5, 6, 7, 8, 9, 10, 11, 12, 13, 14, 15, 16, 17, 18, 19, 20, 21], [0, 1, 2, 3, 4, 5, 6, 7, 8, 9, 10, 11, 12, 13, 14, 15, 16, 17, 18, 19, 20, 21, 27], [0, 1, 2, 3, 4, 5, 6, 7, 8, 9, 10, 11, 12, 13, 14, 15, 16, 17, 18, 19, 20, 21, 26, 27, 28], [0, 1, 2, 3, 4, 5, 6, 7, 8, 9, 10, 11, 12, 13, 14, 15, 16, 17, 18, 19, 20, 21, 26, 27, 28, 29], [0, 1, 2, 3, 4, 5, 6, 7, 8, 9, 10, 11, 12, 13, 14, 15, 16, 17, 18, 19, 20, 21, 22, 23, 24, 25, 26, 27, 28, 29, 30], [0, 1, 2, 3, 4, 5, 6, 7, 8, 9, 10, 11, 12, 13, 14, 15, 16, 17, 18, 19, 20, 21, 22, 23, 24, 25, 26, 27, 28, 29, 30, 31], [0, 1, 2, 3, 4, 5, 6, 7, 8, 9, 10, 11, 12, 13, 14, 15, 16, 17, 18, 19, 20, 21, 22, 23, 24, 25, 26, 27, 28, 29, 30, 31, 32], [0, 1, 2, 3, 4, 5, 6, 7, 8, 9, 10, 11, 12, 13, 14, 15, 16, 17, 18, 19, 20, 21, 22, 23, 24, 25, 26, 27, 28, 29, 30, 31, 32, 33]], [25], [30], [0], false, []⟩
  | _, _ => ⟨[], [], [], [], [], false, []⟩
noncomputable def watershedkit_KeptBytes_2_tb : List (CE CT Try.prog) := [watershedkit_markByte_ce]
noncomputable def watershedkit_KeptBytes_2_l1 (a : ((List (UInt8)) × (Nat × Nat × Nat) × (Int) × Unit) × ((List (UInt8)) × Unit)) : Option ((((List (UInt8)) × (Nat × Nat × Nat) × (Int) × Unit) × ((List (UInt8)) × Unit)) ⊕ ((((Bool) × Unit) × ((List (UInt8)) × Unit)) ⊕ ((Unit) × ((List (UInt8)) × Unit)))) :=
  (bif (decide ((a.1.2.2.1 : Int) < ((a.1.2.1.2.1 : Nat) : Int))) then
  (bif (decide ((a.1.2.2.1 : Int) < (a.1.1.length : Int))) then
  (if 0 ≤ (a.1.2.2.1 : Int) ∧ (a.1.2.2.1 : Int) < ((a.1.2.1.2.1 : Nat) : Int) then
  (getI a.1.1 a.1.2.2.1).bind fun e1 =>
  (a.2.1[(a.1.2.1.1 + (a.1.2.2.1 : Int).toNat)]?).bind fun e2 =>
  (bif (!(decide (((e2.toNat : Int) : Int) = (e1.toNat : Int)))) then
  some (.inr (.inl ((false, ()), (a.2.1, ()))))
  else
  (bif (decide (((a.1.1.length : Int) : Int) ≤ a.1.2.2.1)) then
  (if 0 ≤ (a.1.2.2.1 : Int) ∧ (a.1.2.2.1 : Int) < ((a.1.2.1.2.1 : Nat) : Int) then
  (a.2.1[(a.1.2.1.1 + (a.1.2.2.1 : Int).toNat)]?).bind fun e3 =>
  (watershedkit_markByte 1 (IntKind.i64.wrap (a.1.2.2.1 - (a.1.1.length : Int)))).bind fun r4 =>
  (bif (!(decide (((e3.toNat : Int) : Int) = r4.1))) then
  some (.inr (.inl ((false, ()), (a.2.1, ()))))
  else
  some (.inl ((a.1.1, (a.1.2.1.1, a.1.2.1.2.1, a.1.2.1.2.2), (IntKind.i64.wrap (a.1.2.2.1 + 1)), ()), (a.2.1, ()))))
  else none)
  else
  some (.inl ((a.1.1, (a.1.2.1.1, a.1.2.1.2.1, a.1.2.1.2.2), (IntKind.i64.wrap (a.1.2.2.1 + 1)), ()), (a.2.1, ())))))
  else none)
  else
  (bif (decide (((a.1.1.length : Int) : Int) ≤ a.1.2.2.1)) then
  (if 0 ≤ (a.1.2.2.1 : Int) ∧ (a.1.2.2.1 : Int) < ((a.1.2.1.2.1 : Nat) : Int) then
  (a.2.1[(a.1.2.1.1 + (a.1.2.2.1 : Int).toNat)]?).bind fun e5 =>
  (watershedkit_markByte 1 (IntKind.i64.wrap (a.1.2.2.1 - (a.1.1.length : Int)))).bind fun r6 =>
  (bif (!(decide (((e5.toNat : Int) : Int) = r6.1))) then
  some (.inr (.inl ((false, ()), (a.2.1, ()))))
  else
  some (.inl ((a.1.1, (a.1.2.1.1, a.1.2.1.2.1, a.1.2.1.2.2), (IntKind.i64.wrap (a.1.2.2.1 + 1)), ()), (a.2.1, ()))))
  else none)
  else
  some (.inl ((a.1.1, (a.1.2.1.1, a.1.2.1.2.1, a.1.2.1.2.2), (IntKind.i64.wrap (a.1.2.2.1 + 1)), ()), (a.2.1, ())))))
  else
  some (.inr (.inr ((), (a.2.1, ())))))
noncomputable def watershedkit_KeptBytes_2_e1 : LE CT Try.prog := ⟨5, [1, 5, 6], [.one (.sl 1), .one (.as 1 0), .one (.int .i64)], [.arr 5 1 true], [⟨.ret, [4], [.one (.bool)], [.arr 5 1 true]⟩, ⟨.exit 0, [], [], [.arr 5 1 true]⟩], watershedkit_KeptBytes_2_l1⟩
noncomputable def watershedkit_KeptBytes_2_lt : List (LE CT Try.prog) := [watershedkit_KeptBytes_2_e1]
theorem watershedkit_KeptBytes_2_e1_ok : LeOk watershedkit_KeptBytes_2_e1 (nthL (bodyOf Try.f45) 0) := fun A env h k z hk => le_ok (E := watershedkit_KeptBytes_2_e1) (orcOf_ok watershedkit_KeptBytes_2_tb) (dr := watershedkit_KeptBytes_2_dr) (lps := lpsOf watershedkit_KeptBytes_2_lt) (no_loop (by kernel_rfl)) (fun a => by kernel_rfl) env h k z hk
noncomputable def watershedkit_KeptBytes_2 (x0 : Nat × Nat × Nat) (x1 : List (UInt8)) (h0 : List (UInt8)) : Option ((Bool) × ((List (UInt8)) × Unit)) :=
  (bif (decide ((((x0.2.1 : Nat) : Int) : Int) ≠ (x1.length : Int))) then
  some (false, (h0, ()))
  else
  (if 0 ≤ ((0 : Int) : Int) ∧ ((0 : Int) : Int) ≤ ((IntKind.i64.wrap ((x1.length : Int) + 12)) : Int) ∧ ((IntKind.i64.wrap ((x1.length : Int) + 12)) : Int) ≤ ((x0.2.2 : Nat) : Int) ∧ ((IntKind.i64.wrap ((x1.length : Int) + 12)) : Int) ≤ 140737488355328 then
  (loopM watershedkit_KeptBytes_2_l1 ((x1, ((x0.1 + (0 : Int).toNat), (((IntKind.i64.wrap ((x1.length : Int) + 12)) : Int).toNat - (0 : Int).toNat), (x0.2.2 - (0 : Int).toNat)), 0, ()), (h0, ()))).bind fun b1 =>
  (match b1 with
  | .inl b2 =>
  some (b2.1.1, (b2.2.1, ()))
  | .inr b3 =>
  some (true, (b3.2.1, ())))
  else none))
noncomputable def watershedkit_KeptBytes_2_ce : CE CT Try.prog where
  f := 45
  args := [.one (.as 1 0), .one (.sl 1)]
  hs := [.arr 5 1 true]
  res := .val (.one (.bool))
  outs := [.arr 5 1 true]
  m := fun d dh => watershedkit_KeptBytes_2 d.1 d.2.1 dh.1
  ok := ce_ok mixedP Try.func45 (by kernel_rfl) (orcOf_ok watershedkit_KeptBytes_2_tb) (dr := watershedkit_KeptBytes_2_dr) (lps := lpsOf watershedkit_KeptBytes_2_lt) (lps_fn (lps_of (n := 1) (by kernel_rfl) fun i hi => match i, hi with | 0, _ => lp_ok (E := watershedkit_KeptBytes_2_e1) (by kernel_rfl) watershedkit_KeptBytes_2_e1_ok)) (fun d dh => by kernel_rfl)

def watershedkit_KeptLetter_dr : Nat → Nat → DrA
  | _, _ => ⟨[], [], [], [], [], false, []⟩
noncomputable def watershedkit_KeptLetter_tb : List (CE CT Try.prog) := [watershedkit_SameLetter_2_ce, watershedkit_KeptEntries_ce, watershedkit_KeptBase_ce, watershedkit_KeptBytes_2_ce]
noncomputable def watershedkit_KeptLetter_lt : List (LE CT Try.prog) := []
noncomputable def watershedkit_KeptLetter (x0 : (Int) × (Int) × (Int) × (Int) × (Int) × (Int) × (Int) × (Int) × (Bool) × (Nat × Nat × Nat × Unit) × (Int) × (Int) × (Nat × Nat × Nat) × (Nat × Nat × Nat) × (Nat × Nat × Nat) × (Nat × Nat × Nat) × (Int) × (Int) × (Int) × (Nat × Nat × Nat) × Unit) (x1 : DLetter) (h0 : List (DEntryX)) (h1 : List (Int)) (h2 : List (Int)) (h3 : List (Int)) (h4 : List (Int)) (h5 : List (UInt8)) : Option ((Bool) × ((List (DEntryX)) × (List (Int)) × (List (Int)) × (List (Int)) × (List (Int)) × (List (UInt8)) × Unit)) :=
  (watershedkit_SameLetter_2 (x0.1, x0.2.1, x0.2.2.1, x0.2.2.2.1, x0.2.2.2.2.1, x0.2.2.2.2.2.1, x0.2.2.2.2.2.2.1, x0.2.2.2.2.2.2.2.1, x0.2.2.2.2.2.2.2.2.1, (x0.2.2.2.2.2.2.2.2.2.1.1, x0.2.2.2.2.2.2.2.2.2.1.2.1, x0.2.2.2.2.2.2.2.2.2.1.2.2.1, ()), x0.2.2.2.2.2.2.2.2.2.2.1, x0.2.2.2.2.2.2.2.2.2.2.2.1, (x0.2.2.2.2.2.2.2.2.2.2.2.2.1.1, x0.2.2.2.2.2.2.2.2.2.2.2.2.1.2.1, x0.2.2.2.2.2.2.2.2.2.2.2.2.1.2.2), (x0.2.2.2.2.2.2.2.2.2.2.2.2.2.1.1, x0.2.2.2.2.2.2.2.2.2.2.2.2.2.1.2.1, x0.2.2.2.2.2.2.2.2.2.2.2.2.2.1.2.2), (x0.2.2.2.2.2.2.2.2.2.2.2.2.2.2.1.1, x0.2.2.2.2.2.2.2.2.2.2.2.2.2.2.1.2.1, x0.2.2.2.2.2.2.2.2.2.2.2.2.2.2.1.2.2), (x0.2.2.2.2.2.2.2.2.2.2.2.2.2.2.2.1.1, x0.2.2.2.2.2.2.2.2.2.2.2.2.2.2.2.1.2.1, x0.2.2.2.2.2.2.2.2.2.2.2.2.2.2.2.1.2.2), x0.2.2.2.2.2.2.2.2.2.2.2.2.2.2.2.2.1, x0.2.2.2.2.2.2.2.2.2.2.2.2.2.2.2.2.2.1, x0.2.2.2.2.2.2.2.2.2.2.2.2.2.2.2.2.2.2.1, (x0.2.2.2.2.2.2.2.2.2.2.2.2.2.2.2.2.2.2.2.1.1, x0.2.2.2.2.2.2.2.2.2.2.2.2.2.2.2.2.2.2.2.1.2.1, x0.2.2.2.2.2.2.2.2.2.2.2.2.2.2.2.2.2.2.2.1.2.2), ()) x1 h0 h1 h2 h3 h4 h5).bind fun r1 =>
  (bif r1.1 then
  (watershedkit_KeptEntries (x0.2.2.2.2.2.2.2.2.2.1.1, x0.2.2.2.2.2.2.2.2.2.1.2.1, x0.2.2.2.2.2.2.2.2.2.1.2.2.1, ()) x1.entries r1.2.1).bind fun r2 =>
  (bif r2.1 then
  (watershedkit_KeptBase (x0.2.2.2.2.2.2.2.2.2.2.1, x0.2.2.2.2.2.2.2.2.2.2.2.1, (x0.2.2.2.2.2.2.2.2.2.2.2.2.1.1, x0.2.2.2.2.2.2.2.2.2.2.2.2.1.2.1, x0.2.2.2.2.2.2.2.2.2.2.2.2.1.2.2), (x0.2.2.2.2.2.2.2.2.2.2.2.2.2.1.1, x0.2.2.2.2.2.2.2.2.2.2.2.2.2.1.2.1, x0.2.2.2.2.2.2.2.2.2.2.2.2.2.1.2.2), (x0.2.2.2.2.2.2.2.2.2.2.2.2.2.2.1.1, x0.2.2.2.2.2.2.2.2.2.2.2.2.2.2.1.2.1, x0.2.2.2.2.2.2.2.2.2.2.2.2.2.2.1.2.2), (x0.2.2.2.2.2.2.2.2.2.2.2.2.2.2.2.1.1, x0.2.2.2.2.2.2.2.2.2.2.2.2.2.2.2.1.2.1, x0.2.2.2.2.2.2.2.2.2.2.2.2.2.2.2.1.2.2), ()) x1.base r1.2.2.1 r1.2.2.2.1 r1.2.2.2.2.1 r1.2.2.2.2.2.1).bind fun r3 =>
  (bif r3.1 then
  (watershedkit_KeptBytes_2 (x0.2.2.2.2.2.2.2.2.2.2.2.2.2.2.2.2.2.2.2.1.1, x0.2.2.2.2.2.2.2.2.2.2.2.2.2.2.2.2.2.2.2.1.2.1, x0.2.2.2.2.2.2.2.2.2.2.2.2.2.2.2.2.2.2.2.1.2.2) x1.bytes r1.2.2.2.2.2.2.1).bind fun r4 =>
  some (r4.1, (r2.2.1, r3.2.1, r3.2.2.1, r3.2.2.2.1, r3.2.2.2.2.1, r4.2.1, ()))
  else
  some (false, (r2.2.1, r3.2.1, r3.2.2.1, r3.2.2.2.1, r3.2.2.2.2.1, r1.2.2.2.2.2.2.1, ())))
  else
  some (false, (r2.2.1, r1.2.2.1, r1.2.2.2.1, r1.2.2.2.2.1, r1.2.2.2.2.2.1, r1.2.2.2.2.2.2.1, ())))
  else
  some (false, (r1.2.1, r1.2.2.1, r1.2.2.2.1, r1.2.2.2.2.1, r1.2.2.2.2.2.1, r1.2.2.2.2.2.2.1, ())))
noncomputable def watershedkit_KeptLetter_ce : CE CT Try.prog where
  f := 16
  args := [.agg [.int .u8, .int .i64, .int .i64, .int .i64, .int .i64, .int .i64, .int .i64, .int .i64, .bool, .gv 0 28 3, .int .i64, .int .i64, .as 0 1, .as 0 2, .as 0 3, .as 0 4, .int .i64, .int .i64, .int .i64, .as 1 5], .cod 19]
  hs := [.gen 8 true, .arr 3 0 true, .arr 3 0 true, .arr 3 0 true, .arr 3 0 true, .arr 5 1 true]
  res := .val (.one (.bool))
  outs := [.gen 8 true, .arr 3 0 true, .arr 3 0 true, .arr 3 0 true, .arr 3 0 true, .arr 5 1 true]
  m := fun d dh => watershedkit_KeptLetter d.1 d.2.1 dh.1 dh.2.1 dh.2.2.1 dh.2.2.2.1 dh.2.2.2.2.1 dh.2.2.2.2.2.1
  ok := ce_ok mixedP Try.func16 (by kernel_rfl) (orcOf_ok watershedkit_KeptLetter_tb) (dr := watershedkit_KeptLetter_dr) (lps := lpsOf watershedkit_KeptLetter_lt) (lps_fn (no_loop (by kernel_rfl))) (fun d dh => by kernel_rfl)

def watershedkit_SameImage_2_dr : Nat → Nat → DrA
  | _, _ => ⟨[], [], [], [], [], false, []⟩
noncomputable def watershedkit_SameImage_2_tb : List (CE CT Try.prog) := [watershedkit_SameBase_3_ce, watershedkit_SameBytes_5_ce]
noncomputable def watershedkit_SameImage_2_lt : List (LE CT Try.prog) := []
noncomputable def watershedkit_SameImage_2 (x0 : (Int) × (Int) × (Nat × Nat × Nat) × (Nat × Nat × Nat) × (Nat × Nat × Nat) × (Nat × Nat × Nat) × (Nat × Nat × Nat) × Unit) (x1 : DImage) (h0 : List (Int)) (h1 : List (Int)) (h2 : List (Int)) (h3 : List (Int)) (h4 : List (UInt8)) : Option ((Bool) × ((List (Int)) × (List (Int)) × (List (Int)) × (List (Int)) × (List (UInt8)) × Unit)) :=
  (watershedkit_SameBase_3 (x0.1, x0.2.1, (x0.2.2.1.1, x0.2.2.1.2.1, x0.2.2.1.2.2), (x0.2.2.2.1.1, x0.2.2.2.1.2.1, x0.2.2.2.1.2.2), (x0.2.2.2.2.1.1, x0.2.2.2.2.1.2.1, x0.2.2.2.2.1.2.2), (x0.2.2.2.2.2.1.1, x0.2.2.2.2.2.1.2.1, x0.2.2.2.2.2.1.2.2), ()) x1.base h0 h1 h2 h3).bind fun r1 =>
  (bif r1.1 then
  (watershedkit_SameBytes_5 (x0.2.2.2.2.2.2.1.1, x0.2.2.2.2.2.2.1.2.1, x0.2.2.2.2.2.2.1.2.2) x1.bytes h4).bind fun r2 =>
  some (r2.1, (r1.2.1, r1.2.2.1, r1.2.2.2.1, r1.2.2.2.2.1, r2.2.1, ()))
  else
  some (false, (r1.2.1, r1.2.2.1, r1.2.2.2.1, r1.2.2.2.2.1, h4, ())))
noncomputable def watershedkit_SameImage_2_ce : CE CT Try.prog where
  f := 24
  args := [.agg [.int .i64, .int .i64, .as 0 0, .as 0 1, .as 0 2, .as 0 3, .as 1 4], .cod 20]
  hs := [.arr 3 0 true, .arr 3 0 true, .arr 3 0 true, .arr 3 0 true, .arr 5 1 true]
  res := .val (.one (.bool))
  outs := [.arr 3 0 true, .arr 3 0 true, .arr 3 0 true, .arr 3 0 true, .arr 5 1 true]
  m := fun d dh => watershedkit_SameImage_2 d.1 d.2.1 dh.1 dh.2.1 dh.2.2.1 dh.2.2.2.1 dh.2.2.2.2.1
  ok := ce_ok mixedP Try.func24 (by kernel_rfl) (orcOf_ok watershedkit_SameImage_2_tb) (dr := watershedkit_SameImage_2_dr) (lps := lpsOf watershedkit_SameImage_2_lt) (lps_fn (no_loop (by kernel_rfl))) (fun d dh => by kernel_rfl)

def watershedkit_KeptImage_dr : Nat → Nat → DrA
  | _, _ => ⟨[], [], [], [], [], false, []⟩
noncomputable def watershedkit_KeptImage_tb : List (CE CT Try.prog) := [watershedkit_SameImage_2_ce, watershedkit_KeptBase_ce, watershedkit_KeptBytes_2_ce]
noncomputable def watershedkit_KeptImage_lt : List (LE CT Try.prog) := []
noncomputable def watershedkit_KeptImage (x0 : (Int) × (Int) × (Nat × Nat × Nat) × (Nat × Nat × Nat) × (Nat × Nat × Nat) × (Nat × Nat × Nat) × (Nat × Nat × Nat) × Unit) (x1 : DImage) (h0 : List (Int)) (h1 : List (Int)) (h2 : List (Int)) (h3 : List (Int)) (h4 : List (UInt8)) : Option ((Bool) × ((List (Int)) × (List (Int)) × (List (Int)) × (List (Int)) × (List (UInt8)) × Unit)) :=
  (watershedkit_SameImage_2 (x0.1, x0.2.1, (x0.2.2.1.1, x0.2.2.1.2.1, x0.2.2.1.2.2), (x0.2.2.2.1.1, x0.2.2.2.1.2.1, x0.2.2.2.1.2.2), (x0.2.2.2.2.1.1, x0.2.2.2.2.1.2.1, x0.2.2.2.2.1.2.2), (x0.2.2.2.2.2.1.1, x0.2.2.2.2.2.1.2.1, x0.2.2.2.2.2.1.2.2), (x0.2.2.2.2.2.2.1.1, x0.2.2.2.2.2.2.1.2.1, x0.2.2.2.2.2.2.1.2.2), ()) x1 h0 h1 h2 h3 h4).bind fun r1 =>
  (bif r1.1 then
  (watershedkit_KeptBase (x0.1, x0.2.1, (x0.2.2.1.1, x0.2.2.1.2.1, x0.2.2.1.2.2), (x0.2.2.2.1.1, x0.2.2.2.1.2.1, x0.2.2.2.1.2.2), (x0.2.2.2.2.1.1, x0.2.2.2.2.1.2.1, x0.2.2.2.2.1.2.2), (x0.2.2.2.2.2.1.1, x0.2.2.2.2.2.1.2.1, x0.2.2.2.2.2.1.2.2), ()) x1.base r1.2.1 r1.2.2.1 r1.2.2.2.1 r1.2.2.2.2.1).bind fun r2 =>
  (bif r2.1 then
  (watershedkit_KeptBytes_2 (x0.2.2.2.2.2.2.1.1, x0.2.2.2.2.2.2.1.2.1, x0.2.2.2.2.2.2.1.2.2) x1.bytes r1.2.2.2.2.2.1).bind fun r3 =>
  some (r3.1, (r2.2.1, r2.2.2.1, r2.2.2.2.1, r2.2.2.2.2.1, r3.2.1, ()))
  else
  some (false, (r2.2.1, r2.2.2.1, r2.2.2.2.1, r2.2.2.2.2.1, r1.2.2.2.2.2.1, ())))
  else
  some (false, (r1.2.1, r1.2.2.1, r1.2.2.2.1, r1.2.2.2.2.1, r1.2.2.2.2.2.1, ())))
noncomputable def watershedkit_KeptImage_ce : CE CT Try.prog where
  f := 17
  args := [.agg [.int .i64, .int .i64, .as 0 0, .as 0 1, .as 0 2, .as 0 3, .as 1 4], .cod 20]
  hs := [.arr 3 0 true, .arr 3 0 true, .arr 3 0 true, .arr 3 0 true, .arr 5 1 true]
  res := .val (.one (.bool))
  outs := [.arr 3 0 true, .arr 3 0 true, .arr 3 0 true, .arr 3 0 true, .arr 5 1 true]
  m := fun d dh => watershedkit_KeptImage d.1 d.2.1 dh.1 dh.2.1 dh.2.2.1 dh.2.2.2.1 dh.2.2.2.2.1
  ok := ce_ok mixedP Try.func17 (by kernel_rfl) (orcOf_ok watershedkit_KeptImage_tb) (dr := watershedkit_KeptImage_dr) (lps := lpsOf watershedkit_KeptImage_lt) (lps_fn (no_loop (by kernel_rfl))) (fun d dh => by kernel_rfl)

end Go.Proofs.Ytlaehnldaejipaa
