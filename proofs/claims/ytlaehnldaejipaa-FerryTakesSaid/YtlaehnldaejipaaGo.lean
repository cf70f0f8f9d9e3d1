/- Models, by program: what writes over. -/
import Derived.Test.YtlaehnldaejipaaTb
namespace Go.Proofs.Ytlaehnldaejipaa
open Go.RowKit
set_option maxRecDepth 100000
set_option linter.unusedVariables false
def watershedkit_mark_dr : Nat → Nat → DrA
  | _, _ => ⟨[], [], [], [], [], false, []⟩
noncomputable def watershedkit_mark_tb : List (CE CT Try.prog) := []
noncomputable def watershedkit_mark_lt : List (LE CT Try.prog) := []
noncomputable def watershedkit_mark (x0 : Int) (x1 : Int) : Option ((Int) × (Unit)) :=
  let y1 : Int := (IntKind.i64.wrap ((IntKind.i64.wrap (1000003 * (IntKind.i64.wrap (x0 + 7)))) + x1))
  some (y1, ())
noncomputable def watershedkit_mark_ce : CE CT Try.prog where
  f := 64
  args := [.one (.int .i64), .one (.int .i64)]
  hs := []
  res := .val (.one (.int .i64))
  outs := []
  m := fun d dh => watershedkit_mark d.1 d.2.1
  ok := ce_ok mixedP Try.func64 (by kernel_rfl) (orcOf_ok watershedkit_mark_tb) (dr := watershedkit_mark_dr) (lps := lpsOf watershedkit_mark_lt) (lps_fn (no_loop (by kernel_rfl))) (fun d dh => by kernel_rfl)

def watershedkit_OverInts_dr : Nat → Nat → DrA
  | _, _ => ⟨[], [], [], [], [], false, []⟩
noncomputable def watershedkit_OverInts_tb : List (CE CT Try.prog) := [watershedkit_mark_ce]
noncomputable def watershedkit_OverInts_l1 (a : ((Nat × Nat × Nat) × (Int) × Unit) × ((List (Int)) × Unit)) : Option ((((Nat × Nat × Nat) × (Int) × Unit) × ((List (Int)) × Unit)) ⊕ (((Unit) × ((List (Int)) × Unit)))) :=
  (bif (decide ((a.1.2.1 : Int) < ((a.1.1.2.1 : Nat) : Int))) then
  (watershedkit_mark 2 a.1.2.1).bind fun r1 =>
  (if 0 ≤ (a.1.2.1 : Int) ∧ (a.1.2.1 : Int) < ((a.1.1.2.1 : Nat) : Int) then
  (if (a.1.1.1 + (a.1.2.1 : Int).toNat) ≤ a.2.1.length then
  let y3 : List (Int) := (a.2.1.take (a.1.1.1 + (a.1.2.1 : Int).toNat) ++ r1.1 :: a.2.1.drop ((a.1.1.1 + (a.1.2.1 : Int).toNat) + 1))
  some (.inl (((a.1.1.1, a.1.1.2.1, a.1.1.2.2), (IntKind.i64.wrap (a.1.2.1 + 1)), ()), (y3, ())))
  else none)
  else none)
  else
  some (.inr ((), (a.2.1, ()))))
noncomputable def watershedkit_OverInts_e1 : LE CT Try.prog := ⟨2, [2, 3], [.one (.as 10 0), .one (.int .i64)], [.arr 3 10 true], [⟨.exit 0, [], [], [.arr 3 10 true]⟩], watershedkit_OverInts_l1⟩
noncomputable def watershedkit_OverInts_lt : List (LE CT Try.prog) := [watershedkit_OverInts_e1]
theorem watershedkit_OverInts_e1_ok : LeOk watershedkit_OverInts_e1 (nthL (bodyOf Try.f69) 0) := fun A env h k z hk => le_ok (E := watershedkit_OverInts_e1) (orcOf_ok watershedkit_OverInts_tb) (dr := watershedkit_OverInts_dr) (lps := lpsOf watershedkit_OverInts_lt) (no_loop (by kernel_rfl)) (fun a => by kernel_rfl) env h k z hk
noncomputable def watershedkit_OverInts (x0 : Nat × Nat × Nat) (h0 : List (Int)) : Option ((Unit) × ((List (Int)) × Unit)) :=
  let y1 : Int := (if ((IntKind.i64.wrap (((x0.2.1 : Nat) : Int) + 12)) : Int) < ((x0.2.2 : Nat) : Int) then (IntKind.i64.wrap (((x0.2.1 : Nat) : Int) + 12)) else ((x0.2.2 : Nat) : Int))
  (if 0 ≤ ((0 : Int) : Int) ∧ ((0 : Int) : Int) ≤ (y1 : Int) ∧ (y1 : Int) ≤ ((x0.2.2 : Nat) : Int) ∧ (y1 : Int) ≤ 140737488355328 then
  (loopM watershedkit_OverInts_l1 ((((x0.1 + (0 : Int).toNat), ((y1 : Int).toNat - (0 : Int).toNat), (x0.2.2 - (0 : Int).toNat)), 0, ()), (h0, ()))).bind fun b2 =>
  some ((), (b2.2.1, ()))
  else none)
noncomputable def watershedkit_OverInts_ce : CE CT Try.prog where
  f := 69
  args := [.one (.as 10 0)]
  hs := [.arr 3 10 true]
  res := .tup []
  outs := [.arr 3 10 true]
  m := fun d dh => watershedkit_OverInts d.1 dh.1
  ok := ce_ok mixedP Try.func69 (by kernel_rfl) (orcOf_ok watershedkit_OverInts_tb) (dr := watershedkit_OverInts_dr) (lps := lpsOf watershedkit_OverInts_lt) (lps_fn (lps_of (n := 1) (by kernel_rfl) fun i hi => match i, hi with | 0, _ => lp_ok (E := watershedkit_OverInts_e1) (by kernel_rfl) watershedkit_OverInts_e1_ok)) (fun d dh => by kernel_rfl)

def watershedkit_markByte_dr : Nat → Nat → DrA
  | _, _ => ⟨[], [], [], [], [], false, []⟩
noncomputable def watershedkit_markByte_tb : List (CE CT Try.prog) := [watershedkit_mark_ce]
noncomputable def watershedkit_markByte_lt : List (LE CT Try.prog) := []
noncomputable def watershedkit_markByte (x0 : Int) (x1 : Int) : Option ((Int) × (Unit)) :=
  (watershedkit_mark x0 x1).bind fun r1 =>
  let y2 : Int := (IntKind.u8.wrap (((IntKind.u64.wrap ((IntKind.u64.wrap r1.1) * 11400714819323198485)) : Int).fdiv (2 ^ min (56 : Int).toNat (IntKind.u64.bits))))
  some (y2, ())
noncomputable def watershedkit_markByte_ce : CE CT Try.prog where
  f := 53
  args := [.one (.int .i64), .one (.int .i64)]
  hs := []
  res := .val (.one (.int .u8))
  outs := []
  m := fun d dh => watershedkit_markByte d.1 d.2.1
  ok := ce_ok mixedP Try.func53 (by kernel_rfl) (orcOf_ok watershedkit_markByte_tb) (dr := watershedkit_markByte_dr) (lps := lpsOf watershedkit_markByte_lt) (lps_fn (no_loop (by kernel_rfl))) (fun d dh => by kernel_rfl)

def watershedkit_OverBytes_dr : Nat → Nat → DrA
  | _, _ => ⟨[], [], [], [], [], false, []⟩
noncomputable def watershedkit_OverBytes_tb : List (CE CT Try.prog) := [watershedkit_markByte_ce]
noncomputable def watershedkit_OverBytes_l1 (a : ((Nat × Nat × Nat) × (Int) × Unit) × ((List (UInt8)) × Unit)) : Option ((((Nat × Nat × Nat) × (Int) × Unit) × ((List (UInt8)) × Unit)) ⊕ (((Unit) × ((List (UInt8)) × Unit)))) :=
  (bif (decide ((a.1.2.1 : Int) < ((a.1.1.2.1 : Nat) : Int))) then
  (watershedkit_markByte 2 a.1.2.1).bind fun r1 =>
  (if 0 ≤ (a.1.2.1 : Int) ∧ (a.1.2.1 : Int) < ((a.1.1.2.1 : Nat) : Int) then
  (if (a.1.1.1 + (a.1.2.1 : Int).toNat) ≤ a.2.1.length then
  (b8 r1.1).bind fun u3 =>
  let y4 : List (UInt8) := (a.2.1.take (a.1.1.1 + (a.1.2.1 : Int).toNat) ++ u3 :: a.2.1.drop ((a.1.1.1 + (a.1.2.1 : Int).toNat) + 1))
  some (.inl (((a.1.1.1, a.1.1.2.1, a.1.1.2.2), (IntKind.i64.wrap (a.1.2.1 + 1)), ()), (y4, ())))
  else none)
  else none)
  else
  some (.inr ((), (a.2.1, ()))))
noncomputable def watershedkit_OverBytes_e1 : LE CT Try.prog := ⟨2, [2, 3], [.one (.as 11 0), .one (.int .i64)], [.arr 5 11 true], [⟨.exit 0, [], [], [.arr 5 11 true]⟩], watershedkit_OverBytes_l1⟩
noncomputable def watershedkit_OverBytes_lt : List (LE CT Try.prog) := [watershedkit_OverBytes_e1]
theorem watershedkit_OverBytes_e1_ok : LeOk watershedkit_OverBytes_e1 (nthL (bodyOf Try.f42) 0) := fun A env h k z hk => le_ok (E := watershedkit_OverBytes_e1) (orcOf_ok watershedkit_OverBytes_tb) (dr := watershedkit_OverBytes_dr) (lps := lpsOf watershedkit_OverBytes_lt) (no_loop (by kernel_rfl)) (fun a => by kernel_rfl) env h k z hk
noncomputable def watershedkit_OverBytes (x0 : Nat × Nat × Nat) (h0 : List (UInt8)) : Option ((Unit) × ((List (UInt8)) × Unit)) :=
  let y1 : Int := (if ((IntKind.i64.wrap (((x0.2.1 : Nat) : Int) + 12)) : Int) < ((x0.2.2 : Nat) : Int) then (IntKind.i64.wrap (((x0.2.1 : Nat) : Int) + 12)) else ((x0.2.2 : Nat) : Int))
  (if 0 ≤ ((0 : Int) : Int) ∧ ((0 : Int) : Int) ≤ (y1 : Int) ∧ (y1 : Int) ≤ ((x0.2.2 : Nat) : Int) ∧ (y1 : Int) ≤ 140737488355328 then
  (loopM watershedkit_OverBytes_l1 ((((x0.1 + (0 : Int).toNat), ((y1 : Int).toNat - (0 : Int).toNat), (x0.2.2 - (0 : Int).toNat)), 0, ()), (h0, ()))).bind fun b2 =>
  some ((), (b2.2.1, ()))
  else none)
noncomputable def watershedkit_OverBytes_ce : CE CT Try.prog where
  f := 42
  args := [.one (.as 11 0)]
  hs := [.arr 5 11 true]
  res := .tup []
  outs := [.arr 5 11 true]
  m := fun d dh => watershedkit_OverBytes d.1 dh.1
  ok := ce_ok mixedP Try.func42 (by kernel_rfl) (orcOf_ok watershedkit_OverBytes_tb) (dr := watershedkit_OverBytes_dr) (lps := lpsOf watershedkit_OverBytes_lt) (lps_fn (lps_of (n := 1) (by kernel_rfl) fun i hi => match i, hi with | 0, _ => lp_ok (E := watershedkit_OverBytes_e1) (by kernel_rfl) watershedkit_OverBytes_e1_ok)) (fun d dh => by kernel_rfl)
end Go.Proofs.Ytlaehnldaejipaa
