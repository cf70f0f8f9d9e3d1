/- Models, by program: what writes over. -/
import Derived.Test.YtlaehnldaejipaaTb
namespace Go.Proofs.Ytlaehnldaejipaa
noncomputable section
open Go.RowKit
set_option maxRecDepth 100000
set_option linter.unusedVariables false
def wk_mark_tb : List (CEp) := []
def wk_mark (x0 : Int) (x1 : Int) : Option (Int × Unit) :=
  let y1 : Int := (IntKind.i64.wrap ((IntKind.i64.wrap (1000003 * (IntKind.i64.wrap (x0 + 7)))) + x1))
  some (y1, ())
def wk_mark_ce : CEp where
  f := 64
  args := [.one (.int .i64), .one (.int .i64)]
  hs := []
  res := .val (.one (.int .i64))
  outs := []
  m := fun d dh => wk_mark d.1 d.2.1
  ok := ceO Try.func64 (by kernel_rfl) wk_mark_tb (by kernel_rfl) fun d dh => by kernel_rfl

def wk_OverInts_tb : List (CEp) := [wk_mark_ce]
def wk_OverInts_l1 (a : ((Nat × Nat × Nat) × Int × Unit) × (LI × Unit)) : Option ((((Nat × Nat × Nat) × Int × Unit) × (LI × Unit)) ⊕ ((Unit × (LI × Unit)))) :=
  (bif (decide ((a.1.2.1 : Int) < ((a.1.1.2.1 : Nat) : Int))) then
  (wk_mark 2 a.1.2.1).bind fun r1 =>
  (if 0 ≤ (a.1.2.1 : Int) ∧ (a.1.2.1 : Int) < ((a.1.1.2.1 : Nat) : Int) then
  (if (a.1.1.1 + (a.1.2.1 : Int).toNat) ≤ a.2.1.length then
  let y3 : LI := (a.2.1.take (a.1.1.1 + (a.1.2.1 : Int).toNat) ++ r1.1 :: a.2.1.drop ((a.1.1.1 + (a.1.2.1 : Int).toNat) + 1))
  some (.inl (((a.1.1.1, a.1.1.2.1, a.1.1.2.2), (IntKind.i64.wrap (a.1.2.1 + 1)), ()), (y3, ())))
  else none)
  else none)
  else
  some (.inr ((), (a.2.1, ()))))
def wk_OverInts_e1 : LEp := ⟨2, [2, 3], [.one (.as 10 0), .one (.int .i64)], [.arr 3 10 true], [⟨.exit 0, [], [], [.arr 3 10 true]⟩], wk_OverInts_l1⟩
def wk_OverInts_lt : List (LEp) := [wk_OverInts_e1]
theorem wk_OverInts_e1_ok : LeOk wk_OverInts_e1 (nthL (bodyOf Try.f69) 0) := fun A env h k z hk => le_ok (E := wk_OverInts_e1) (orcOf_ok wk_OverInts_tb) (dr := dr0) (lps := lpsOf wk_OverInts_lt) (no_loop (by kernel_rfl)) (fun a => by kernel_rfl) env h k z hk
def wk_OverInts (x0 : Nat × Nat × Nat) (h0 : LI) : Option (Unit × (LI × Unit)) :=
  let y1 : Int := (if ((IntKind.i64.wrap (((x0.2.1 : Nat) : Int) + 12)) : Int) < ((x0.2.2 : Nat) : Int) then (IntKind.i64.wrap (((x0.2.1 : Nat) : Int) + 12)) else ((x0.2.2 : Nat) : Int))
  (if 0 ≤ ((0 : Int) : Int) ∧ ((0 : Int) : Int) ≤ (y1 : Int) ∧ (y1 : Int) ≤ ((x0.2.2 : Nat) : Int) ∧ (y1 : Int) ≤ 140737488355328 then
  (loopM wk_OverInts_l1 ((((x0.1 + (0 : Int).toNat), ((y1 : Int).toNat - (0 : Int).toNat), (x0.2.2 - (0 : Int).toNat)), 0, ()), (h0, ()))).bind fun b2 =>
  some ((), (b2.2.1, ()))
  else none)
def wk_OverInts_ce : CEp where
  f := 69
  args := [.one (.as 10 0)]
  hs := [.arr 3 10 true]
  res := .tup []
  outs := [.arr 3 10 true]
  m := fun d dh => wk_OverInts d.1 dh.1
  ok := ce_ok mixedP Try.func69 (by kernel_rfl) (orcOf_ok wk_OverInts_tb) (dr := dr0) (lps := lpsOf wk_OverInts_lt) (lps_fn (lps_of (n := 1) (by kernel_rfl) fun i hi => match i, hi with | 0, _ => lp_ok (E := wk_OverInts_e1) (by kernel_rfl) wk_OverInts_e1_ok)) (fun d dh => by kernel_rfl)

def wk_markByte_tb : List (CEp) := [wk_mark_ce]
def wk_markByte (x0 : Int) (x1 : Int) : Option (Int × Unit) :=
  (wk_mark x0 x1).bind fun r1 =>
  let y2 : Int := (IntKind.u8.wrap (((IntKind.u64.wrap ((IntKind.u64.wrap r1.1) * 11400714819323198485)) : Int).fdiv (2 ^ min (56 : Int).toNat (IntKind.u64.bits))))
  some (y2, ())
def wk_markByte_ce : CEp where
  f := 53
  args := [.one (.int .i64), .one (.int .i64)]
  hs := []
  res := .val (.one (.int .u8))
  outs := []
  m := fun d dh => wk_markByte d.1 d.2.1
  ok := ceO Try.func53 (by kernel_rfl) wk_markByte_tb (by kernel_rfl) fun d dh => by kernel_rfl

def wk_OverBytes_tb : List (CEp) := [wk_markByte_ce]
def wk_OverBytes_l1 (a : ((Nat × Nat × Nat) × Int × Unit) × (LB × Unit)) : Option ((((Nat × Nat × Nat) × Int × Unit) × (LB × Unit)) ⊕ ((Unit × (LB × Unit)))) :=
  (bif (decide ((a.1.2.1 : Int) < ((a.1.1.2.1 : Nat) : Int))) then
  (wk_markByte 2 a.1.2.1).bind fun r1 =>
  (if 0 ≤ (a.1.2.1 : Int) ∧ (a.1.2.1 : Int) < ((a.1.1.2.1 : Nat) : Int) then
  (if (a.1.1.1 + (a.1.2.1 : Int).toNat) ≤ a.2.1.length then
  (b8 r1.1).bind fun u3 =>
  let y4 : LB := (a.2.1.take (a.1.1.1 + (a.1.2.1 : Int).toNat) ++ u3 :: a.2.1.drop ((a.1.1.1 + (a.1.2.1 : Int).toNat) + 1))
  some (.inl (((a.1.1.1, a.1.1.2.1, a.1.1.2.2), (IntKind.i64.wrap (a.1.2.1 + 1)), ()), (y4, ())))
  else none)
  else none)
  else
  some (.inr ((), (a.2.1, ()))))
def wk_OverBytes_e1 : LEp := ⟨2, [2, 3], [.one (.as 11 0), .one (.int .i64)], [.arr 5 11 true], [⟨.exit 0, [], [], [.arr 5 11 true]⟩], wk_OverBytes_l1⟩
def wk_OverBytes_lt : List (LEp) := [wk_OverBytes_e1]
theorem wk_OverBytes_e1_ok : LeOk wk_OverBytes_e1 (nthL (bodyOf Try.f42) 0) := fun A env h k z hk => le_ok (E := wk_OverBytes_e1) (orcOf_ok wk_OverBytes_tb) (dr := dr0) (lps := lpsOf wk_OverBytes_lt) (no_loop (by kernel_rfl)) (fun a => by kernel_rfl) env h k z hk
def wk_OverBytes (x0 : Nat × Nat × Nat) (h0 : LB) : Option (Unit × (LB × Unit)) :=
  let y1 : Int := (if ((IntKind.i64.wrap (((x0.2.1 : Nat) : Int) + 12)) : Int) < ((x0.2.2 : Nat) : Int) then (IntKind.i64.wrap (((x0.2.1 : Nat) : Int) + 12)) else ((x0.2.2 : Nat) : Int))
  (if 0 ≤ ((0 : Int) : Int) ∧ ((0 : Int) : Int) ≤ (y1 : Int) ∧ (y1 : Int) ≤ ((x0.2.2 : Nat) : Int) ∧ (y1 : Int) ≤ 140737488355328 then
  (loopM wk_OverBytes_l1 ((((x0.1 + (0 : Int).toNat), ((y1 : Int).toNat - (0 : Int).toNat), (x0.2.2 - (0 : Int).toNat)), 0, ()), (h0, ()))).bind fun b2 =>
  some ((), (b2.2.1, ()))
  else none)
def wk_OverBytes_ce : CEp where
  f := 42
  args := [.one (.as 11 0)]
  hs := [.arr 5 11 true]
  res := .tup []
  outs := [.arr 5 11 true]
  m := fun d dh => wk_OverBytes d.1 dh.1
  ok := ce_ok mixedP Try.func42 (by kernel_rfl) (orcOf_ok wk_OverBytes_tb) (dr := dr0) (lps := lpsOf wk_OverBytes_lt) (lps_fn (lps_of (n := 1) (by kernel_rfl) fun i hi => match i, hi with | 0, _ => lp_ok (E := wk_OverBytes_e1) (by kernel_rfl) wk_OverBytes_e1_ok)) (fun d dh => by kernel_rfl)
end
end Go.Proofs.Ytlaehnldaejipaa
