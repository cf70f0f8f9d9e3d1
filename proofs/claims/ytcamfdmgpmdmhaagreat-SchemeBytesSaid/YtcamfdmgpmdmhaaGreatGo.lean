/- Models, by program: what writes over. -/
import Derived.Test.YtcamfdmgpmdmhaaGreatTb
namespace Go.Proofs.YtcamfdmgpmdmhaaGreat
open Go.RowKit
set_option maxRecDepth 100000
set_option linter.unusedVariables false
def watershedkit_mark_dr : Nat → DrA
  | _ => ⟨[], [], [], [], [], false, []⟩
noncomputable def watershedkit_mark_tb : List (CE CT Tryz.prog) := []
noncomputable def watershedkit_mark_lt : List (LE CT Tryz.prog) := []
noncomputable def watershedkit_mark (x0 : Int) (x1 : Int) : Option ((Int) × (Unit)) :=
  let y1 : Int := (IntKind.i64.wrap ((IntKind.i64.wrap (1000003 * (IntKind.i64.wrap (x0 + 7)))) + x1))
  some (y1, ())
noncomputable def watershedkit_mark_ce : CE CT Tryz.prog where
  f := 113
  args := [.one (.int .i64), .one (.int .i64)]
  hs := []
  res := .val (.one (.int .i64))
  outs := []
  m := fun d dh => watershedkit_mark d.1 d.2.1
  ok := ce_ok mixedP Tryz.func113 (by kernel_rfl) (orcOf_ok watershedkit_mark_tb) (dr := watershedkit_mark_dr) (lps := lpsOf watershedkit_mark_lt) (lps_fn (no_loop (by kernel_rfl))) (fun d dh => by kernel_rfl)

def watershedkit_markShare_dr : Nat → DrA
  | _ => ⟨[], [], [], [], [], false, []⟩
noncomputable def watershedkit_markShare_tb : List (CE CT Tryz.prog) := [watershedkit_mark_ce]
noncomputable def watershedkit_markShare_lt : List (LE CT Tryz.prog) := []
noncomputable def watershedkit_markShare (x0 : Int) (x1 : Int) : Option ((DShare) × (Unit)) :=
  (watershedkit_mark x0 x1).bind fun r1 =>
  some ((⟨(⟨([] : List UInt8), ([] : List UInt8)⟩ : DSpan), 0, r1.1⟩ : DShare), ())
noncomputable def watershedkit_markShare_ce : CE CT Tryz.prog where
  f := 77
  args := [.one (.int .i64), .one (.int .i64)]
  hs := []
  res := .val (.cod 5)
  outs := []
  m := fun d dh => watershedkit_markShare d.1 d.2.1
  ok := ce_ok mixedP Tryz.func77 (by kernel_rfl) (orcOf_ok watershedkit_markShare_tb) (dr := watershedkit_markShare_dr) (lps := lpsOf watershedkit_markShare_lt) (lps_fn (no_loop (by kernel_rfl))) (fun d dh => by kernel_rfl)

def watershedkit_OverShareRows_dr : Nat → DrA
  | _ => ⟨[], [], [], [], [], false, []⟩
noncomputable def watershedkit_OverShareRows_tb : List (CE CT Tryz.prog) := [watershedkit_markShare_ce]
noncomputable def watershedkit_OverShareRows_l1 (a : ((Nat × Nat × Nat) × (Int) × Unit) × ((List (DShare)) × Unit)) : Option ((((Nat × Nat × Nat) × (Int) × Unit) × ((List (DShare)) × Unit)) ⊕ (((Unit) × ((List (DShare)) × Unit)))) :=
  (bif (decide ((a.1.2.1 : Int) < ((a.1.1.2.1 : Nat) : Int))) then
  (watershedkit_markShare 2 a.1.2.1).bind fun r1 =>
  (if 0 ≤ (a.1.2.1 : Int) ∧ (a.1.2.1 : Int) < ((a.1.1.2.1 : Nat) : Int) then
  (if (a.1.1.1 + (a.1.2.1 : Int).toNat) ≤ a.2.1.length then
  let y3 : List (DShare) := (a.2.1.take (a.1.1.1 + (a.1.2.1 : Int).toNat) ++ (⟨r1.1.span, r1.1.group, r1.1.epoch⟩ : DShare) :: a.2.1.drop ((a.1.1.1 + (a.1.2.1 : Int).toNat) + 1))
  some (.inl (((a.1.1.1, a.1.1.2.1, a.1.1.2.2), (IntKind.i64.wrap (a.1.2.1 + 1)), ()), (y3, ())))
  else none)
  else none)
  else
  some (.inr ((), (a.2.1, ()))))
noncomputable def watershedkit_OverShareRows_e1 : LE CT Tryz.prog := ⟨2, [2, 3], [.one (.as 7 0), .one (.int .i64)], [.arr 71 7 true], [⟨.exit 0, [], [], [.arr 71 7 true]⟩], watershedkit_OverShareRows_l1⟩
noncomputable def watershedkit_OverShareRows_lt : List (LE CT Tryz.prog) := [watershedkit_OverShareRows_e1]
theorem watershedkit_OverShareRows_e1_ok : LeOk watershedkit_OverShareRows_e1 (nthL (bodyOf Tryz.f51) 0) := fun A env h k z hk => le_ok (E := watershedkit_OverShareRows_e1) (orcOf_ok watershedkit_OverShareRows_tb) (dr := watershedkit_OverShareRows_dr) (lps := lpsOf watershedkit_OverShareRows_lt) (no_loop (by kernel_rfl)) (fun a => by kernel_rfl) env h k z hk
noncomputable def watershedkit_OverShareRows (x0 : Nat × Nat × Nat) (h0 : List (DShare)) : Option ((Unit) × ((List (DShare)) × Unit)) :=
  let y1 : Int := (if ((IntKind.i64.wrap (((x0.2.1 : Nat) : Int) + 12)) : Int) < ((x0.2.2 : Nat) : Int) then (IntKind.i64.wrap (((x0.2.1 : Nat) : Int) + 12)) else ((x0.2.2 : Nat) : Int))
  (if 0 ≤ ((0 : Int) : Int) ∧ ((0 : Int) : Int) ≤ (y1 : Int) ∧ (y1 : Int) ≤ ((x0.2.2 : Nat) : Int) ∧ (y1 : Int) ≤ 140737488355328 then
  (loopM watershedkit_OverShareRows_l1 ((((x0.1 + (0 : Int).toNat), ((y1 : Int).toNat - (0 : Int).toNat), (x0.2.2 - (0 : Int).toNat)), 0, ()), (h0, ()))).bind fun b2 =>
  some ((), (b2.2.1, ()))
  else none)
noncomputable def watershedkit_OverShareRows_ce : CE CT Tryz.prog where
  f := 51
  args := [.one (.as 7 0)]
  hs := [.arr 71 7 true]
  res := .tup []
  outs := [.arr 71 7 true]
  m := fun d dh => watershedkit_OverShareRows d.1 dh.1
  ok := ce_ok mixedP Tryz.func51 (by kernel_rfl) (orcOf_ok watershedkit_OverShareRows_tb) (dr := watershedkit_OverShareRows_dr) (lps := lpsOf watershedkit_OverShareRows_lt) (lps_fn (lps_of (n := 1) (by kernel_rfl) fun i hi => match i, hi with | 0, _ => lp_ok (E := watershedkit_OverShareRows_e1) (by kernel_rfl) watershedkit_OverShareRows_e1_ok)) (fun d dh => by kernel_rfl)
end Go.Proofs.YtcamfdmgpmdmhaaGreat
