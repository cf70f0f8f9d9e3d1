/- Models of what is called. -/
import Derived.Test.YtinpiaibhjmfaaaTb
import Derived.Test.YtinpiaibhjmfaaaOa
import Derived.Test.YtinpiaibhjmfaaaTw
import Derived.Test.YtinpiaibhjmfaaaGw
import Derived.Test.YtinpiaibhjmfaaaFx
import Derived.Test.YtinpiaibhjmfaaaSl
import Derived.Test.YtinpiaibhjmfaaaSm
import Derived.Test.YtinpiaibhjmfaaaLe
namespace Go.Proofs.Ytinpiaibhjmfaaa
open Go.RowKit
set_option maxRecDepth 100000
set_option linter.unusedVariables false
noncomputable def growN64 (n : Int) : Option (Nat × ((List (UInt8)) × Unit)) := if 0 ≤ n ∧ n ≤ 140737488355328 ∧ n * ((1 : Nat) : Int) ≤ 140737488355328 then some (0, ([], ())) else none
noncomputable def growN64_ce : CE CT Try.prog where
  f := 64
  args := [.one .nil, .one (.int .i64)]
  hs := []
  res := .val (.one (.asz 1 0))
  outs := [.arr 5 1 false]
  m := fun d dh => growN64 d.2.1
  ok := fun d dh r hr => by
    unfold growN64 at hr
    split at hr
    · rename_i hn
      injection hr with hr
      subst hr
      exact growNil_tr Try.growLay64 rfl rfl (zv := .int .u8 0) false (hsz := by kernel_rfl) (hz := by kernel_rfl) (hby := by kernel_rfl) rfl rfl rfl (by kernel_rfl) d.2.1 hn.1 hn.2.1 hn.2.2
    · cases hr

noncomputable def cloneE41 (x0 : List (UInt8)) : Option (Nat × (List (UInt8) × Unit)) :=
  if x0.length ≤ 140737488355328 ∧ x0.length * 1 ≤ 140737488355328 then some (x0.length, (x0, ())) else none
noncomputable def cloneE41_ce : CE CT Try.prog where
  f := 41
  args := [.one (.sl 1)]
  hs := []
  res := .val (.one (.asz 1 0))
  outs := [.arr 5 1 false]
  m := fun d dh => cloneE41 d.1
  ok := fun d dh r hr => by
    unfold cloneE41 at hr
    split at hr
    · rename_i hc
      injection hr with hr
      subst hr
      have hroom := hc
      exact Tr.kp0 (cloneE_tr mixedP Try.func41 (by kernel_rfl) rfl rfl (zv := .int .u8 0) (he := by kernel_rfl) (hsz := by kernel_rfl) (hz := by kernel_rfl) (hby := by kernel_rfl) rfl rfl (zt := (0 : UInt8)) d.1 (by kernel_rfl) hroom)
    · cases hr

def slices_Concat_dr : Nat → Nat → DrA
  | _, _ => ⟨[], [], [], [], [], false, []⟩
noncomputable def slices_Concat_tb : List (CE CT Try.prog) := [growN64_ce]
noncomputable def slices_Concat_l1 (a : ((List (List (UInt8))) × (Int) × (List (List (UInt8))) × (Int) × (Int) × Unit) × (Unit)) : Option ((((List (List (UInt8))) × (Int) × (List (List (UInt8))) × (Int) × (Int) × Unit) × (Unit)) ⊕ ((((List (List (UInt8))) × (Int) × Unit) × (Unit)))) :=
  (bif (decide ((a.1.2.2.2.2.1 : Int) < a.1.2.2.2.1)) then
  (getI a.1.2.2.1 a.1.2.2.2.2.1).bind fun e1 =>
  (bif (decide (((IntKind.i64.wrap (a.1.2.1 + (e1.length : Int))) : Int) < 0)) then
  none
  else
  some (.inl ((a.1.1, (IntKind.i64.wrap (a.1.2.1 + (e1.length : Int))), a.1.2.2.1, a.1.2.2.2.1, (IntKind.i64.wrap (a.1.2.2.2.2.1 + 1)), ()), ())))
  else
  some (.inr ((a.1.1, a.1.2.1, ()), ())))
noncomputable def slices_Concat_e1 : LE CT Try.prog := ⟨3, [0, 3, 9, 10, 11], [.one (.sl 3), .one (.int .i64), .one (.sl 3), .one (.int .i64), .one (.int .i64)], [], [⟨.exit 0, [0, 3], [.one (.sl 3), .one (.int .i64)], []⟩], slices_Concat_l1⟩
noncomputable def slices_Concat_l2 (a : ((Nat) × (List (List (UInt8))) × (Int) × (Int) × Unit) × ((List (UInt8)) × Unit)) : Option ((((Nat) × (List (List (UInt8))) × (Int) × (Int) × Unit) × ((List (UInt8)) × Unit)) ⊕ ((((Nat) × Unit) × ((Unit) × (List (UInt8)) × Unit)))) :=
  (bif (decide ((a.1.2.2.2.1 : Int) < a.1.2.2.1)) then
  (getI a.1.2.1 a.1.2.2.2.1).bind fun e1 =>
  (if (a.1.1 + e1.length) ≤ 140737488355328 ∧ (a.1.1 + e1.length) * 1 ≤ 140737488355328 ∧ 0 + a.1.1 ≤ a.2.1.length then
  some (.inl (((a.1.1 + e1.length), a.1.2.1, a.1.2.2.1, (IntKind.i64.wrap (a.1.2.2.2.1 + 1)), ()), ((a.2.1.take a.1.1 ++ e1), ())))
  else none)
  else
  some (.inr ((a.1.1, ()), ((), a.2.1, ()))))
noncomputable def slices_Concat_e2 : LE CT Try.prog := ⟨11, [6, 25, 26, 27], [.one (.asz 1 0), .one (.sl 3), .one (.int .i64), .one (.int .i64)], [.arr 5 1 false], [⟨.exit 2, [6], [.one (.asz 1 1)], [.dead, .arr 5 1 false]⟩], slices_Concat_l2⟩
noncomputable def slices_Concat_lt : List (LE CT Try.prog) := [slices_Concat_e1, slices_Concat_e2]
theorem slices_Concat_e1_ok : LeOk slices_Concat_e1 (nthL (bodyOf Try.f36) 0) := fun A env h k z hk => le_ok (E := slices_Concat_e1) (orcOf_ok slices_Concat_tb) (dr := slices_Concat_dr) (lps := lpsOf slices_Concat_lt) (no_loop (by kernel_rfl)) (fun a => by kernel_rfl) env h k z hk
theorem slices_Concat_e2_ok : LeOk slices_Concat_e2 (nthL (bodyOf Try.f36) 1) := fun A env h k z hk => le_ok (E := slices_Concat_e2) (orcOf_ok slices_Concat_tb) (dr := slices_Concat_dr) (lps := lpsOf slices_Concat_lt) (no_loop (by kernel_rfl)) (fun a => by kernel_rfl) env h k z hk
noncomputable def slices_Concat (x0 : List (List (UInt8))) : Option ((Nat) × ((List (UInt8)) × Unit)) :=
  (loopM slices_Concat_l1 ((x0, 0, x0, (x0.length : Int), 0, ()), ())).bind fun b1 =>
  (growN64 b1.1.2.1).bind fun r2 =>
  (loopM slices_Concat_l2 ((r2.1, b1.1.1, (b1.1.1.length : Int), 0, ()), (r2.2.1, ()))).bind fun b3 =>
  some (b3.1.1, (b3.2.2.1, ()))
noncomputable def slices_Concat_ce : CE CT Try.prog where
  f := 36
  args := [.one (.sl 3)]
  hs := []
  res := .val (.one (.asz 1 0))
  outs := [.arr 5 1 false]
  m := fun d dh => slices_Concat d.1
  ok := ce_ok mixedP Try.func36 (by kernel_rfl) (orcOf_ok slices_Concat_tb) (dr := slices_Concat_dr) (lps := lpsOf slices_Concat_lt) (lps_fn (lps_of (n := 2) (by kernel_rfl) fun i hi => match i, hi with | 0, _ => lp_ok (E := slices_Concat_e1) (by kernel_rfl) slices_Concat_e1_ok | 1, _ => lp_ok (E := slices_Concat_e2) (by kernel_rfl) slices_Concat_e2_ok)) (fun d dh => by kernel_rfl)

def watershedkit_SameBytes_dr : Nat → Nat → DrA
  | 6, _ => ⟨[0, 1, 2, 4, 5, 6, 3, 7, 8], [[], [], [0, 1], [0, 1, 2], [], [], [4, 5], [4, 5, 6], (List.range 8)], [], [], [], false, []⟩
  | _, _ => ⟨[], [], [], [], [], false, []⟩
noncomputable def watershedkit_SameBytes_tb : List (CE CT Try.prog) := []
noncomputable def watershedkit_SameBytes_l1 (a : ((List (UInt8)) × (List (UInt8)) × (Int) × Unit) × (Unit)) : Option ((((List (UInt8)) × (List (UInt8)) × (Int) × Unit) × (Unit)) ⊕ ((((Bool) × Unit) × (Unit)) ⊕ ((Unit) × (Unit)))) :=
  (bif (decide ((a.1.2.2.1 : Int) < (a.1.1.length : Int))) then
  (getI a.1.1 a.1.2.2.1).bind fun e1 =>
  (getI a.1.2.1 a.1.2.2.1).bind fun e2 =>
  (bif (decide (((e1.toNat : Int) : Int) ≠ (e2.toNat : Int))) then
  some (.inr (.inl ((false, ()), ())))
  else
  some (.inl ((a.1.1, a.1.2.1, (IntKind.i64.wrap (a.1.2.2.1 + 1)), ()), ())))
  else
  some (.inr (.inr ((), ()))))
noncomputable def watershedkit_SameBytes_e1 : LE CT Try.prog := ⟨4, [0, 1, 5], [.one (.sl 1), .one (.sl 1), .one (.int .i64)], [], [⟨.ret, [4], [.one (.bool)], []⟩, ⟨.exit 0, [], [], []⟩], watershedkit_SameBytes_l1⟩
noncomputable def watershedkit_SameBytes_lt : List (LE CT Try.prog) := [watershedkit_SameBytes_e1]
theorem watershedkit_SameBytes_e1_ok : LeOk watershedkit_SameBytes_e1 (nthL (bodyOf Try.f13) 0) := fun A env h k z hk => le_ok (E := watershedkit_SameBytes_e1) (orcOf_ok watershedkit_SameBytes_tb) (dr := watershedkit_SameBytes_dr) (lps := lpsOf watershedkit_SameBytes_lt) (no_loop (by kernel_rfl)) (fun a => by kernel_rfl) env h k z hk
noncomputable def watershedkit_SameBytes (x0 : List (UInt8)) (x1 : List (UInt8)) : Option ((Bool) × (Unit)) :=
  (bif (decide (((x0.length : Int) : Int) ≠ (x1.length : Int))) then
  some (false, ())
  else
  (loopM watershedkit_SameBytes_l1 ((x0, x1, 0, ()), ())).bind fun b1 =>
  (match b1 with
  | .inl b2 =>
  some (b2.1.1, ())
  | .inr b3 =>
  some (true, ())))
noncomputable def watershedkit_SameBytes_ce : CE CT Try.prog where
  f := 13
  args := [.one (.sl 1), .one (.sl 1)]
  hs := []
  res := .val (.one (.bool))
  outs := []
  m := fun d dh => watershedkit_SameBytes d.1 d.2.1
  ok := ce_ok mixedP Try.func13 (by kernel_rfl) (orcOf_ok watershedkit_SameBytes_tb) (dr := watershedkit_SameBytes_dr) (lps := lpsOf watershedkit_SameBytes_lt) (lps_fn (lps_of (n := 1) (by kernel_rfl) fun i hi => match i, hi with | 0, _ => lp_ok (E := watershedkit_SameBytes_e1) (by kernel_rfl) watershedkit_SameBytes_e1_ok)) (fun d dh => by kernel_rfl)

def disk_right_dr : Nat → Nat → DrA
  | _, _ => ⟨[], [], [], [], [], false, []⟩
noncomputable def disk_right_tb : List (CE CT Try.prog) := []
noncomputable def disk_right_lt : List (LE CT Try.prog) := []
noncomputable def disk_right (x0 : List UInt8) : Option ((Bool) × (Unit)) :=
  (bif (decide (x0 ≠ ([] : List UInt8))) then
  some ((decide (((x0.length : Int) : Int) ≤ 40)), ())
  else
  some (false, ()))
noncomputable def disk_right_ce : CE CT Try.prog where
  f := 35
  args := [.one (.str)]
  hs := []
  res := .val (.one (.bool))
  outs := []
  m := fun d dh => disk_right d.1
  ok := ce_ok mixedP Try.func35 (by kernel_rfl) (orcOf_ok disk_right_tb) (dr := disk_right_dr) (lps := lpsOf disk_right_lt) (lps_fn (no_loop (by kernel_rfl))) (fun d dh => by kernel_rfl)

def watershedlaw07_begins_dr : Nat → Nat → DrA
  | _, _ => ⟨[], [], [], [], [], false, []⟩
noncomputable def watershedlaw07_begins_tb : List (CE CT Try.prog) := [watershedkit_SameBytes_ce]
noncomputable def watershedlaw07_begins_lt : List (LE CT Try.prog) := []
noncomputable def watershedlaw07_begins (x0 : List (UInt8)) (x1 : List (UInt8)) : Option ((Bool) × (Unit)) :=
  (bif (decide (((x0.length : Int) : Int) ≤ (x1.length : Int))) then
  (if 0 ≤ ((0 : Int) : Int) ∧ ((0 : Int) : Int) ≤ (x0.length : Int) ∧ (x0.length : Int) ≤ (x1.length : Int) then
  let y1 : List (UInt8) := ((x1.drop ((0 : Int) : Int).toNat).take (((x0.length : Int) : Int).toNat - ((0 : Int) : Int).toNat))
  (watershedkit_SameBytes x0 y1).bind fun r2 =>
  some (r2.1, ())
  else none)
  else
  some (false, ()))
noncomputable def watershedlaw07_begins_ce : CE CT Try.prog where
  f := 16
  args := [.one (.sl 1), .one (.sl 1)]
  hs := []
  res := .val (.one (.bool))
  outs := []
  m := fun d dh => watershedlaw07_begins d.1 d.2.1
  ok := ce_ok mixedP Try.func16 (by kernel_rfl) (orcOf_ok watershedlaw07_begins_tb) (dr := watershedlaw07_begins_dr) (lps := lpsOf watershedlaw07_begins_lt) (lps_fn (no_loop (by kernel_rfl))) (fun d dh => by kernel_rfl)

def watershedlaw07_light_dr : Nat → Nat → DrA
  | 7, _ => ⟨(List.range 5 ++ [8, 9, 10, 11, 15, 16, 17, 18, 5, 6, 7, 12, 13, 14, 19, 20, 21, 22]), [[], [], [], [1, 2], [1, 2, 3], [1, 2, 3, 4], [1, 2, 3, 4, 5], (List.range 7), [], [], [8, 9], [8, 9, 10], [8, 9, 10, 11], [8, 9, 10, 11, 12], (List.range 14), [], [], [15, 16], [15, 16, 17], [15, 16, 17, 18], [15, 16, 17, 18, 19], (List.range 21), (List.range 22)], [], [], [], false, []⟩
  | _, _ => ⟨[], [], [], [], [], false, []⟩
noncomputable def watershedlaw07_light_tb : List (CE CT Try.prog) := []
noncomputable def watershedlaw07_light_l2 (a : ((List (DDeed)) × (Int) × (Int) × (Int) × Unit) × (Unit)) : Option ((((List (DDeed)) × (Int) × (Int) × (Int) × Unit) × (Unit)) ⊕ ((((List (DDeed)) × (Int) × (Int) × Unit) × (Unit)))) :=
  (getI a.1.1 a.1.2.2.1).bind fun e1 =>
  (bif (decide ((a.1.2.2.2.1 : Int) < (e1.parts.length : Int))) then
  (bif (decide ((a.1.2.1 : Int) ≤ 20000)) then
  (getI a.1.1 a.1.2.2.1).bind fun e2 =>
  (getI e2.parts a.1.2.2.2.1).bind fun e3 =>
  some (.inl ((a.1.1, (IntKind.i64.wrap (a.1.2.1 + (e3.length : Int))), a.1.2.2.1, (IntKind.i64.wrap (a.1.2.2.2.1 + 1)), ()), ()))
  else
  some (.inr ((a.1.1, a.1.2.1, a.1.2.2.1, ()), ())))
  else
  some (.inr ((a.1.1, a.1.2.1, a.1.2.2.1, ()), ())))
noncomputable def watershedlaw07_eight_e2 : LE CT Try.prog := ⟨9, [0, 3, 4, 5], [.one (.sl 6), .one (.int .i64), .one (.int .i64), .one (.int .i64)], [], [⟨.exit 2, [0, 3, 4], [.one (.sl 6), .one (.int .i64), .one (.int .i64)], []⟩], watershedlaw07_light_l2⟩
noncomputable def watershedlaw07_light_l3 (a : ((List (DDeed)) × (Int) × (Int) × (Int) × Unit) × (Unit)) : Option ((((List (DDeed)) × (Int) × (Int) × (Int) × Unit) × (Unit)) ⊕ ((((List (DDeed)) × (Int) × (Int) × Unit) × (Unit)))) :=
  (getI a.1.1 a.1.2.2.1).bind fun e1 =>
  (bif (decide ((a.1.2.2.2.1 : Int) < (e1.names.length : Int))) then
  (bif (decide ((a.1.2.1 : Int) ≤ 20000)) then
  (getI a.1.1 a.1.2.2.1).bind fun e2 =>
  (getI e2.names a.1.2.2.2.1).bind fun e3 =>
  some (.inl ((a.1.1, (IntKind.i64.wrap (a.1.2.1 + (e3.length : Int))), a.1.2.2.1, (IntKind.i64.wrap (a.1.2.2.2.1 + 1)), ()), ()))
  else
  some (.inr ((a.1.1, a.1.2.1, a.1.2.2.1, ()), ())))
  else
  some (.inr ((a.1.1, a.1.2.1, a.1.2.2.1, ()), ())))
noncomputable def watershedlaw07_eight_e3 : LE CT Try.prog := ⟨13, [0, 3, 4, 6], [.one (.sl 6), .one (.int .i64), .one (.int .i64), .one (.int .i64)], [], [⟨.exit 4, [0, 3, 4], [.one (.sl 6), .one (.int .i64), .one (.int .i64)], []⟩], watershedlaw07_light_l3⟩
noncomputable def watershedlaw07_light_l1 (a : ((List (DDeed)) × (Int) × (Int) × Unit) × (Unit)) : Option ((((List (DDeed)) × (Int) × (Int) × Unit) × (Unit)) ⊕ ((((Int) × Unit) × (Unit)))) :=
  (bif (decide ((a.1.2.2.1 : Int) < (a.1.1.length : Int))) then
  (bif (decide ((a.1.2.1 : Int) ≤ 20000)) then
  (getI a.1.1 a.1.2.2.1).bind fun e1 =>
  (getI a.1.1 a.1.2.2.1).bind fun e2 =>
  (getI a.1.1 a.1.2.2.1).bind fun e3 =>
  let y4 : Int := (IntKind.i64.wrap ((IntKind.i64.wrap ((IntKind.i64.wrap (a.1.2.1 + (e1.name.length : Int))) + (e2.names.length : Int))) + (e3.parts.length : Int)))
  (loopM watershedlaw07_light_l2 ((a.1.1, y4, a.1.2.2.1, 0, ()), ())).bind fun b5 =>
  (loopM watershedlaw07_light_l3 ((b5.1.1, b5.1.2.1, b5.1.2.2.1, 0, ()), ())).bind fun b6 =>
  some (.inl ((b6.1.1, b6.1.2.1, (IntKind.i64.wrap (b6.1.2.2.1 + 1)), ()), ()))
  else
  some (.inr ((a.1.2.1, ()), ())))
  else
  some (.inr ((a.1.2.1, ()), ())))
noncomputable def watershedlaw07_eight_e1 : LE CT Try.prog := ⟨5, [0, 3, 4], [.one (.sl 6), .one (.int .i64), .one (.int .i64)], [], [⟨.exit 0, [3], [.one (.int .i64)], []⟩], watershedlaw07_light_l1⟩
noncomputable def watershedlaw07_light_lt : List (LE CT Try.prog) := [watershedlaw07_eight_e2, watershedlaw07_eight_e3, watershedlaw07_eight_e1]
theorem watershedlaw07_eight_e2_ok : LeOk watershedlaw07_eight_e2 (nthL (nthL (bodyOf Try.f8) 0) 0) := fun A env h k z hk => le_ok (E := watershedlaw07_eight_e2) (orcOf_ok watershedlaw07_light_tb) (dr := watershedlaw07_light_dr) (lps := lpsOf watershedlaw07_light_lt) (no_loop (by kernel_rfl)) (fun a => by kernel_rfl) env h k z hk
theorem watershedlaw07_eight_e3_ok : LeOk watershedlaw07_eight_e3 (nthL (nthL (bodyOf Try.f8) 0) 1) := fun A env h k z hk => le_ok (E := watershedlaw07_eight_e3) (orcOf_ok watershedlaw07_light_tb) (dr := watershedlaw07_light_dr) (lps := lpsOf watershedlaw07_light_lt) (no_loop (by kernel_rfl)) (fun a => by kernel_rfl) env h k z hk
theorem watershedlaw07_eight_e1_ok : LeOk watershedlaw07_eight_e1 (nthL (bodyOf Try.f8) 0) := fun A env h k z hk => le_ok (E := watershedlaw07_eight_e1) (orcOf_ok watershedlaw07_light_tb) (dr := watershedlaw07_light_dr) (lps := lpsOf watershedlaw07_light_lt) (lps_of (n := 2) (by kernel_rfl) fun i hi => match i, hi with | 0, _ => lp_ok (E := watershedlaw07_eight_e2) (by kernel_rfl) watershedlaw07_eight_e2_ok | 1, _ => lp_ok (E := watershedlaw07_eight_e3) (by kernel_rfl) watershedlaw07_eight_e3_ok) (fun a => by kernel_rfl) env h k z hk
noncomputable def watershedlaw07_light (x0 : List (DDeed)) : Option ((Bool) × (Unit)) :=
  (bif (decide ((300 : Int) < (x0.length : Int))) then
  some (false, ())
  else
  (loopM watershedlaw07_light_l1 ((x0, 0, 0, ()), ())).bind fun b1 =>
  some ((decide ((b1.1.1 : Int) ≤ 20000)), ()))
noncomputable def watershedlaw07_light_ce : CE CT Try.prog where
  f := 8
  args := [.one (.sl 6)]
  hs := []
  res := .val (.one (.bool))
  outs := []
  m := fun d dh => watershedlaw07_light d.1
  ok := ce_ok mixedP Try.func8 (by kernel_rfl) (orcOf_ok watershedlaw07_light_tb) (dr := watershedlaw07_light_dr) (lps := lpsOf watershedlaw07_light_lt) (lps_fn (lps_of (n := 1) (by kernel_rfl) fun i hi => match i, hi with | 0, _ => lp_ok (E := watershedlaw07_eight_e1) (by kernel_rfl) watershedlaw07_eight_e1_ok)) (fun d dh => by kernel_rfl)
end Go.Proofs.Ytinpiaibhjmfaaa
