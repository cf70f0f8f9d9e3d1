/- Models, by program. -/
import Derived.Test.YtlmmpfbdgiokmaaGreatIn
import Derived.Test.YtlmmpfbdgiokmaaGreatOa
import Derived.Test.YtlmmpfbdgiokmaaGreatTw
import Derived.Test.YtlmmpfbdgiokmaaGreatWr
import Derived.Test.YtlmmpfbdgiokmaaGreatFx
import Derived.Test.YtlmmpfbdgiokmaaGreatUn
import Derived.Test.YtlmmpfbdgiokmaaGreatFt
import Derived.Test.YtlmmpfbdgiokmaaGreatAv
namespace Go.Proofs.YtlmmpfbdgiokmaaGreat
open Go.RowKit
set_option maxRecDepth 100000
set_option linter.unusedVariables false
noncomputable def cmpstr (x y : List UInt8) : Option (Int × Unit) := some (Lib.compareBytes x y, ())
noncomputable def cmpstr_ce : CE CT Tryz.prog where
  f := 137
  args := [.one .str, .one .str]
  hs := []
  res := .val (.one (.int .i64))
  outs := []
  m := fun d dh => cmpstr d.1 d.2.1
  ok := fun d dh r hr => by
    unfold cmpstr at hr
    injection hr with hr
    subst hr
    exact cmpstr_tr Tryz.func137 (by kernel_rfl) (by kernel_rfl) (by kernel_rfl) (by kernel_rfl)

noncomputable def insert (n : Nat) (i : Int) (m : Nat × Nat × Nat) (xs ys : List (DRow)) : Option (Nat × (Unit × Unit × List (DRow) × Unit)) :=
  if InsertOk n i m.1 m.2.1 m.2.2 xs ys then some (n + m.2.1, ((), (), xs.take i.toNat ++ ys ++ xs.drop i.toNat, ())) else none
noncomputable def insert_ce : CE CT Tryz.prog where
  f := 94
  args := [.one (.asz 3 0), .one (.int .i64), .one (.as 3 1)]
  hs := [.arr 48 3 true, .arr 48 3 true]
  res := .val (.one (.asz 3 2))
  outs := [.dead, .dead, .arr 48 3 false]
  m := fun d dh => insert d.1 d.2.1 d.2.2.1 dh.1 dh.2.1
  ok := fun d dh r hr => by
    unfold insert at hr
    split at hr
    · rename_i hc
      injection hr with hr
      subst hr
      exact insert_tr hc
    · cases hr

noncomputable def delete (n : Nat) (i j : Int) (xs : List (DRow)) : Option (Nat × (Unit × List (DRow) × Unit)) :=
  if DeleteOk n i j xs then some (n - (j.toNat - i.toNat), ((), xs.take i.toNat ++ xs.drop j.toNat, ())) else none
noncomputable def delete_ce : CE CT Tryz.prog where
  f := 49
  args := [.one (.asz 3 0), .one (.int .i64), .one (.int .i64)]
  hs := [.arr 48 3 true]
  res := .val (.one (.asz 3 1))
  outs := [.dead, .arr 48 3 false]
  m := fun d dh => delete d.1 d.2.1 d.2.2.1 dh.1
  ok := fun d dh r hr => by
    unfold delete at hr
    split at hr
    · rename_i hc
      injection hr with hr
      subst hr
      exact delete_tr hc
    · cases hr

noncomputable def apartLines (v : Nat × Nat × Unit) (xs ys : List (DRow)) : Option (Bool × (Unit × Unit × Unit)) := if v.1 ≤ xs.length ∧ v.2.1 ≤ ys.length ∧ v.1 ≤ 1000000 ∧ v.2.1 ≤ 1000000 then some (true, ((), (), ())) else none
noncomputable def apartLines_ce : CE CT Tryz.prog where
  f := 15
  args := [.vl [.asz 3 0, .asz 3 1]]
  hs := [.arr 48 3 true, .arr 48 3 true]
  res := .val (.one .bool)
  outs := [.dead, .dead]
  m := fun d dh => apartLines d.1 dh.1 dh.2.1
  ok := fun d dh r hr => by
    unfold apartLines at hr
    split at hr
    · rename_i hc
      injection hr with hr
      subst hr
      obtain ⟨h1, h2, h3, h4⟩ := hc
      exact apart_tr rfl (mk := fun k i => (CT.enc 3 (watershedkit_markRow_v k i)).map avF) (fun k i => call_ext (watershedkit_markRow_ce.ok (k, i, ()) () (watershedkit_markRow_v k i, ()) (watershedkit_markRow_vok k i)) (fun N ρ => .cons (sv_int.2 rfl) (.cons (sv_int.2 rfl) .none)) (fun N ρ a h => watershedkit_markRow_vav h)) (fun k i => by rw [List.length_map]; exact CT.len _ _) (fun k i => watershedkit_markRow_vone k i) (fun k i => watershedkit_markRow_vfit k i)

        h1 h2 h3 h4
    · cases hr

def watershedkit_LinesOf_dr : Nat → Nat → DrA
  | 5, _ => ⟨(List.range 6 ++ [10, 11, 12, 13, 6, 7, 8, 9, 14, 15, 16, 17, 18]), [[], [0], [], [], [2, 3], [2, 3, 4], [2, 3, 4, 5], [2, 3, 4, 5, 6], [2, 3, 4, 5, 6, 7], (List.range 9), [], [], [10, 11], [10, 11, 12], [10, 11, 12, 13], [10, 11, 12, 13, 14], [10, 11, 12, 13, 14, 15], (List.range 17), (List.range 18)], [], [], [], false, []⟩
  | _, _ => ⟨[], [], [], [], [], false, []⟩
noncomputable def watershedkit_LinesOf_tb : List (CE CT Tryz.prog) := []
noncomputable def watershedkit_LinesOf_l1 (a : ((List (DRow)) × (Int) × (Int) × (Int) × Unit) × (Unit)) : Option ((((List (DRow)) × (Int) × (Int) × (Int) × Unit) × (Unit)) ⊕ ((((Int) × Unit) × (Unit)))) :=
  (bif (decide ((a.1.2.2.2.1 : Int) < (a.1.1.length : Int))) then
  (bif (decide ((a.1.2.2.1 : Int) ≤ a.1.2.1)) then
  (getI a.1.1 a.1.2.2.2.1).bind fun e1 =>
  (getI a.1.1 a.1.2.2.2.1).bind fun e2 =>
  let y3 : Int := (IntKind.i64.wrap ((IntKind.i64.wrap ((IntKind.i64.wrap (a.1.2.2.1 + 1)) + (IntKind.i64.wrap (((e1.key.length : Int) : Int).tdiv 8)))) + (IntKind.i64.wrap (((e2.value.length : Int) : Int).tdiv 8))))
  some (.inl ((a.1.1, a.1.2.1, y3, (IntKind.i64.wrap (a.1.2.2.2.1 + 1)), ()), ()))
  else
  some (.inr ((a.1.2.2.1, ()), ())))
  else
  some (.inr ((a.1.2.2.1, ()), ())))
noncomputable def watershedkit_LinesOf_e1 : LE CT Tryz.prog := ⟨3, [0, 1, 5, 6], [.one (.sl 3), .one (.int .i64), .one (.int .i64), .one (.int .i64)], [], [⟨.exit 0, [5], [.one (.int .i64)], []⟩], watershedkit_LinesOf_l1⟩
noncomputable def watershedkit_LinesOf_lt : List (LE CT Tryz.prog) := [watershedkit_LinesOf_e1]
theorem watershedkit_LinesOf_e1_ok : LeOk watershedkit_LinesOf_e1 (nthL (bodyOf Tryz.f23) 0) := fun A env h k z hk => le_ok (E := watershedkit_LinesOf_e1) (orcOf_ok watershedkit_LinesOf_tb) (dr := watershedkit_LinesOf_dr) (lps := lpsOf watershedkit_LinesOf_lt) (no_loop (by kernel_rfl)) (fun a => by kernel_rfl) env h k z hk
noncomputable def watershedkit_LinesOf (x0 : List (DRow)) (x1 : Int) : Option ((Int) × (Unit)) :=
  (loopM watershedkit_LinesOf_l1 ((x0, x1, 0, 0, ()), ())).bind fun b1 =>
  some (b1.1.1, ())
noncomputable def watershedkit_LinesOf_ce : CE CT Tryz.prog where
  f := 23
  args := [.one (.sl 3), .one (.int .i64)]
  hs := []
  res := .val (.one (.int .i64))
  outs := []
  m := fun d dh => watershedkit_LinesOf d.1 d.2.1
  ok := ce_ok mixedP Tryz.func23 (by kernel_rfl) (orcOf_ok watershedkit_LinesOf_tb) (dr := watershedkit_LinesOf_dr) (lps := lpsOf watershedkit_LinesOf_lt) (lps_fn (lps_of (n := 1) (by kernel_rfl) fun i hi => match i, hi with | 0, _ => lp_ok (E := watershedkit_LinesOf_e1) (by kernel_rfl) watershedkit_LinesOf_e1_ok)) (fun d dh => by kernel_rfl)

def watershedlaw15_light_dr : Nat → Nat → DrA
  | 5, _ => ⟨(List.range 5 ++ [8, 9, 10, 11, 12, 17, 18, 19, 20, 21, 5, 13, 14, 15, 22, 23, 24, 6, 7, 16, 25, 26]), [[], [], [], [1, 2], [1, 2, 3], [1, 2, 3, 4], [1, 2, 3, 4, 5], (List.range 7), [], [], [8, 9], [8, 9, 10], [8, 9, 10, 11], [8, 9, 10, 11, 12], [8, 9, 10, 11, 12, 13], [8, 9, 10, 11, 12, 13, 14], (List.range 16), [], [], [17, 18], [17, 18, 19], [17, 18, 19, 20], [17, 18, 19, 20, 21], [17, 18, 19, 20, 21, 22], [17, 18, 19, 20, 21, 22, 23], (List.range 25), (List.range 26)], [13, 22], [6], [], false, []⟩
  | _, _ => ⟨[], [], [], [], [], false, []⟩
noncomputable def watershedlaw15_light_tb : List (CE CT Tryz.prog) := [watershedkit_LinesOf_ce]
noncomputable def watershedlaw15_light_l1 (a : ((List (DDeed)) × (Int) × (Int) × Unit) × (Unit)) : Option ((((List (DDeed)) × (Int) × (Int) × Unit) × (Unit)) ⊕ ((((List (DDeed)) × (Int) × Unit) × (Unit)))) :=
  (bif (decide ((a.1.2.2.1 : Int) < (a.1.1.length : Int))) then
  (bif (decide ((a.1.2.1 : Int) ≤ 1200)) then
  (getI a.1.1 a.1.2.2.1).bind fun e1 =>
  (getI a.1.1 a.1.2.2.1).bind fun e2 =>
  (getI a.1.1 a.1.2.2.1).bind fun e3 =>
  (watershedkit_LinesOf e1.rows 1200).bind fun r4 =>
  let y5 : Int := (IntKind.i64.wrap ((IntKind.i64.wrap ((IntKind.i64.wrap (a.1.2.1 + r4.1)) + (IntKind.i64.wrap (((e2.span.lo.length : Int) : Int).tdiv 8)))) + (IntKind.i64.wrap (((e3.span.hi.length : Int) : Int).tdiv 8))))
  some (.inl ((a.1.1, y5, (IntKind.i64.wrap (a.1.2.2.1 + 1)), ()), ()))
  else
  some (.inr ((a.1.1, a.1.2.1, ()), ())))
  else
  some (.inr ((a.1.1, a.1.2.1, ()), ())))
noncomputable def watershedlaw15_eight_e1 : LE CT Tryz.prog := ⟨3, [0, 3, 4], [.one (.sl 6), .one (.int .i64), .one (.int .i64)], [], [⟨.exit 0, [0, 3], [.one (.sl 6), .one (.int .i64)], []⟩], watershedlaw15_light_l1⟩
noncomputable def watershedlaw15_light_lt : List (LE CT Tryz.prog) := [watershedlaw15_eight_e1]
theorem watershedlaw15_eight_e1_ok : LeOk watershedlaw15_eight_e1 (nthL (bodyOf Tryz.f5) 0) := fun A env h k z hk => le_ok (E := watershedlaw15_eight_e1) (orcOf_ok watershedlaw15_light_tb) (dr := watershedlaw15_light_dr) (lps := lpsOf watershedlaw15_light_lt) (no_loop (by kernel_rfl)) (fun a => by kernel_rfl) env h k z hk
noncomputable def watershedlaw15_light (x0 : List (DDeed)) : Option ((Bool) × (Unit)) :=
  (loopM watershedlaw15_light_l1 ((x0, (x0.length : Int), 0, ()), ())).bind fun b1 =>
  (bif (decide ((b1.1.2.1 : Int) ≤ 1200)) then
  some ((decide (((b1.1.1.length : Int) : Int) ≤ 60)), ())
  else
  some (false, ()))
noncomputable def watershedlaw15_light_ce : CE CT Tryz.prog where
  f := 5
  args := [.one (.sl 6)]
  hs := []
  res := .val (.one (.bool))
  outs := []
  m := fun d dh => watershedlaw15_light d.1
  ok := ce_ok mixedP Tryz.func5 (by kernel_rfl) (orcOf_ok watershedlaw15_light_tb) (dr := watershedlaw15_light_dr) (lps := lpsOf watershedlaw15_light_lt) (lps_fn (lps_of (n := 1) (by kernel_rfl) fun i hi => match i, hi with | 0, _ => lp_ok (E := watershedlaw15_eight_e1) (by kernel_rfl) watershedlaw15_eight_e1_ok)) (fun d dh => by kernel_rfl)

def rows_New_dr : Nat → Nat → DrA
  | _, _ => ⟨[], [], [], [], [], false, []⟩
noncomputable def rows_New_tb : List (CE CT Tryz.prog) := []
noncomputable def rows_New_lt : List (LE CT Tryz.prog) := []
noncomputable def rows_New  : Option ((Unit) × (((Nat) × (Bool) × Unit) × (List (DRow)) × Unit)) :=
  some ((), ((0, true, ()), [], ()))
noncomputable def rows_New_ce : CE CT Tryz.prog where
  f := 7
  args := []
  hs := []
  res := .val (.one (.ptr 0 0))
  outs := [.obj 58 [.asz 3 1, .bool], .arr 48 3 false]
  m := fun d dh => rows_New
  ok := ce_ok mixedP Tryz.func7 (by kernel_rfl) (orcOf_ok rows_New_tb) (dr := rows_New_dr) (lps := lpsOf rows_New_lt) (lps_fn (no_loop (by kernel_rfl))) (fun d dh => by kernel_rfl)

def rows_known_dr : Nat → Nat → DrA
  | _, _ => ⟨[], [], [], [], [], false, []⟩
noncomputable def rows_known_tb : List (CE CT Tryz.prog) := []
noncomputable def rows_known_lt : List (LE CT Tryz.prog) := []
noncomputable def rows_known (h0 : (Nat) × (Bool) × Unit) (h1 : List (DRow)) : Option ((Bool) × (((Nat) × (Bool) × Unit) × (List (DRow)) × Unit)) :=
  some (h0.2.1, ((h0.1, h0.2.1, ()), h1, ()))
noncomputable def rows_known_ce : CE CT Tryz.prog where
  f := 25
  args := [.one (.ptr 0 0)]
  hs := [.obj 58 [.asz 3 1, .bool], .arr 48 3 true]
  res := .val (.one (.bool))
  outs := [.obj 58 [.asz 3 1, .bool], .arr 48 3 true]
  m := fun d dh => rows_known dh.1 dh.2.1
  ok := ce_ok mixedP Tryz.func25 (by kernel_rfl) (orcOf_ok rows_known_tb) (dr := rows_known_dr) (lps := lpsOf rows_known_lt) (lps_fn (no_loop (by kernel_rfl))) (fun d dh => by kernel_rfl)

def span_Key_dr : Nat → Nat → DrA
  | _, _ => ⟨[], [], [], [], [], false, []⟩
noncomputable def span_Key_tb : List (CE CT Tryz.prog) := []
noncomputable def span_Key_l1 (a : ((List UInt8) × (Int) × (Int) × Unit) × (Unit)) : Option ((((List UInt8) × (Int) × (Int) × Unit) × (Unit)) ⊕ ((((Bool) × Unit) × (Unit)) ⊕ ((Unit) × (Unit)))) :=
  (bif (decide ((a.1.2.2.1 : Int) < a.1.2.1)) then
  (getI a.1.1 a.1.2.2.1).bind fun e1 =>
  (bif (decide ((97 : Int) ≤ (e1.toNat : Int))) then
  (bif (decide (((e1.toNat : Int) : Int) ≤ 122)) then
  some (.inl ((a.1.1, a.1.2.1, (IntKind.i64.wrap (a.1.2.2.1 + 1)), ()), ()))
  else
  (bif (decide ((48 : Int) ≤ (e1.toNat : Int))) then
  (bif (!(decide (((e1.toNat : Int) : Int) ≤ 57))) then
  some (.inr (.inl ((false, ()), ())))
  else
  some (.inl ((a.1.1, a.1.2.1, (IntKind.i64.wrap (a.1.2.2.1 + 1)), ()), ())))
  else
  some (.inr (.inl ((false, ()), ())))))
  else
  (bif (decide ((48 : Int) ≤ (e1.toNat : Int))) then
  (bif (!(decide (((e1.toNat : Int) : Int) ≤ 57))) then
  some (.inr (.inl ((false, ()), ())))
  else
  some (.inl ((a.1.1, a.1.2.1, (IntKind.i64.wrap (a.1.2.2.1 + 1)), ()), ())))
  else
  some (.inr (.inl ((false, ()), ())))))
  else
  some (.inr (.inr ((), ()))))
noncomputable def span_Key_e1 : LE CT Tryz.prog := ⟨4, [0, 13, 14], [.one (.str), .one (.int .i64), .one (.int .i64)], [], [⟨.ret, [2], [.one (.bool)], []⟩, ⟨.exit 0, [], [], []⟩], span_Key_l1⟩
noncomputable def span_Key_lt : List (LE CT Tryz.prog) := [span_Key_e1]
theorem span_Key_e1_ok : LeOk span_Key_e1 (nthL (bodyOf Tryz.f93) 0) := fun A env h k z hk => le_ok (E := span_Key_e1) (orcOf_ok span_Key_tb) (dr := span_Key_dr) (lps := lpsOf span_Key_lt) (no_loop (by kernel_rfl)) (fun a => by kernel_rfl) env h k z hk
noncomputable def span_Key (x0 : List UInt8) : Option ((Bool) × (Unit)) :=
  (bif (decide (x0 = ([] : List UInt8))) then
  some (false, ())
  else
  (bif (decide ((20 : Int) < (x0.length : Int))) then
  some (false, ())
  else
  (loopM span_Key_l1 ((x0, (x0.length : Int), 0, ()), ())).bind fun b1 =>
  (match b1 with
  | .inl b2 =>
  some (b2.1.1, ())
  | .inr b3 =>
  some (true, ()))))
noncomputable def span_Key_ce : CE CT Tryz.prog where
  f := 93
  args := [.one (.str)]
  hs := []
  res := .val (.one (.bool))
  outs := []
  m := fun d dh => span_Key d.1
  ok := ce_ok mixedP Tryz.func93 (by kernel_rfl) (orcOf_ok span_Key_tb) (dr := span_Key_dr) (lps := lpsOf span_Key_lt) (lps_fn (lps_of (n := 1) (by kernel_rfl) fun i hi => match i, hi with | 0, _ => lp_ok (E := span_Key_e1) (by kernel_rfl) span_Key_e1_ok)) (fun d dh => by kernel_rfl)

def rows_right_dr : Nat → Nat → DrA
  | _, _ => ⟨[], [], [], [], [], false, []⟩
noncomputable def rows_right_tb : List (CE CT Tryz.prog) := [span_Key_ce]
noncomputable def rows_right_lt : List (LE CT Tryz.prog) := []
noncomputable def rows_right (x0 : DRow) : Option ((Bool) × (Unit)) :=
  (span_Key x0.key).bind fun r1 =>
  (bif r1.1 then
  some ((decide (((x0.value.length : Int) : Int) ≤ 20)), ())
  else
  some (false, ()))
noncomputable def rows_right_ce : CE CT Tryz.prog where
  f := 45
  args := [.cod 3]
  hs := []
  res := .val (.one (.bool))
  outs := []
  m := fun d dh => rows_right d.1
  ok := ce_ok mixedP Tryz.func45 (by kernel_rfl) (orcOf_ok rows_right_tb) (dr := rows_right_dr) (lps := lpsOf rows_right_lt) (lps_fn (no_loop (by kernel_rfl))) (fun d dh => by kernel_rfl)

def rows_Put1_dr : Nat → Nat → DrA
  | _, _ => ⟨[], [], [], [], [], false, []⟩
noncomputable def rows_Put1_tb : List (CE CT Tryz.prog) := [rows_right_ce]
noncomputable def rows_Put1_lt : List (LE CT Tryz.prog) := []
noncomputable def rows_Put1 (x0 : DRow) : Option ((Bool) × (Unit)) :=
  (rows_right x0).bind fun r1 =>
  some ((!r1.1), ())
noncomputable def rows_Put1_ce : CE CT Tryz.prog where
  f := 44
  args := [.cod 3]
  hs := []
  res := .val (.one (.bool))
  outs := []
  m := fun d dh => rows_Put1 d.1
  ok := ce_ok mixedP Tryz.func44 (by kernel_rfl) (orcOf_ok rows_Put1_tb) (dr := rows_Put1_dr) (lps := lpsOf rows_Put1_lt) (lps_fn (no_loop (by kernel_rfl))) (fun d dh => by kernel_rfl)

def slices_IndexFunc_dr : Nat → Nat → DrA
  | _, _ => ⟨[], [], [], [], [], false, []⟩
noncomputable def slices_IndexFunc_tb : List (CE CT Tryz.prog) := [rows_Put1_ce]
noncomputable def slices_IndexFunc_l1 (a : ((List (DRow)) × (Unit) × (Int) × (Int) × Unit) × (Unit)) : Option ((((List (DRow)) × (Unit) × (Int) × (Int) × Unit) × (Unit)) ⊕ ((((Int) × Unit) × (Unit)) ⊕ ((Unit) × (Unit)))) :=
  (bif (decide ((a.1.2.2.2.1 : Int) < a.1.2.2.1)) then
  (getI a.1.1 a.1.2.2.2.1).bind fun e1 =>
  (rows_Put1 e1).bind fun r2 =>
  (bif r2.1 then
  some (.inr (.inl ((a.1.2.2.2.1, ()), ())))
  else
  some (.inl ((a.1.1, (), a.1.2.2.1, (IntKind.i64.wrap (a.1.2.2.2.1 + 1)), ()), ())))
  else
  some (.inr (.inr ((), ()))))
noncomputable def slices_IndexFunc_e1 : LE CT Tryz.prog := ⟨2, [0, 1, 7, 8], [.one (.sl 3), .one (.fn 44), .one (.int .i64), .one (.int .i64)], [], [⟨.ret, [4], [.one (.int .i64)], []⟩, ⟨.exit 0, [], [], []⟩], slices_IndexFunc_l1⟩
noncomputable def slices_IndexFunc_lt : List (LE CT Tryz.prog) := [slices_IndexFunc_e1]
theorem slices_IndexFunc_e1_ok : LeOk slices_IndexFunc_e1 (nthL (bodyOf Tryz.f92) 0) := fun A env h k z hk => le_ok (E := slices_IndexFunc_e1) (orcOf_ok slices_IndexFunc_tb) (dr := slices_IndexFunc_dr) (lps := lpsOf slices_IndexFunc_lt) (no_loop (by kernel_rfl)) (fun a => by kernel_rfl) env h k z hk
noncomputable def slices_IndexFunc (x0 : List (DRow)) : Option ((Int) × (Unit)) :=
  (loopM slices_IndexFunc_l1 ((x0, (), (x0.length : Int), 0, ()), ())).bind fun b1 =>
  (match b1 with
  | .inl b2 =>
  some (b2.1.1, ())
  | .inr b3 =>
  some ((-1), ()))
noncomputable def slices_IndexFunc_ce : CE CT Tryz.prog where
  f := 92
  args := [.one (.sl 3), .one (.fn 44)]
  hs := []
  res := .val (.one (.int .i64))
  outs := []
  m := fun d dh => slices_IndexFunc d.1
  ok := ce_ok mixedP Tryz.func92 (by kernel_rfl) (orcOf_ok slices_IndexFunc_tb) (dr := slices_IndexFunc_dr) (lps := lpsOf slices_IndexFunc_lt) (lps_fn (lps_of (n := 1) (by kernel_rfl) fun i hi => match i, hi with | 0, _ => lp_ok (E := slices_IndexFunc_e1) (by kernel_rfl) slices_IndexFunc_e1_ok)) (fun d dh => by kernel_rfl)

def slices_ContainsFunc_dr : Nat → Nat → DrA
  | _, _ => ⟨[], [], [], [], [], false, []⟩
noncomputable def slices_ContainsFunc_tb : List (CE CT Tryz.prog) := [slices_IndexFunc_ce]
noncomputable def slices_ContainsFunc_lt : List (LE CT Tryz.prog) := []
noncomputable def slices_ContainsFunc (x0 : List (DRow)) : Option ((Bool) × (Unit)) :=
  (slices_IndexFunc x0).bind fun r1 =>
  some ((decide ((0 : Int) ≤ r1.1)), ())
noncomputable def slices_ContainsFunc_ce : CE CT Tryz.prog where
  f := 43
  args := [.one (.sl 3), .one (.fn 44)]
  hs := []
  res := .val (.one (.bool))
  outs := []
  m := fun d dh => slices_ContainsFunc d.1
  ok := ce_ok mixedP Tryz.func43 (by kernel_rfl) (orcOf_ok slices_ContainsFunc_tb) (dr := slices_ContainsFunc_dr) (lps := lpsOf slices_ContainsFunc_lt) (lps_fn (no_loop (by kernel_rfl))) (fun d dh => by kernel_rfl)

noncomputable def cloneEz26 (x0 : Nat) (h0 : List (DRow)) : Option (Nat × (List (DRow) × List (DRow) × Unit)) :=
  if x0 ≤ h0.length ∧ (h0.take x0).length ≤ 140737488355328 ∧ (h0.take x0).length * 32 ≤ 140737488355328 then some ((h0.take x0).length, (h0, (h0.take x0), ())) else none
noncomputable def cloneEz26_ce : CE CT Tryz.prog where
  f := 26
  args := [.one (.asz 3 0)]
  hs := [.arr 48 3 true]
  res := .val (.one (.asz 3 1))
  outs := [.arr 48 3 true, .arr 48 3 false]
  m := fun d dh => cloneEz26 d.1 dh.1
  ok := fun d dh r hr => by
    unfold cloneEz26 at hr
    split at hr
    · rename_i hc
      injection hr with hr
      subst hr
      have hroom := hc.2
      exact Tr.lendArr (fun x => rfl) (U0 := fun _ => True) (Tr.kp0 (cloneE_tr mixedP Tryz.func26 (by kernel_rfl) rfl rfl (zv := .agg #[.string ⟨#[]⟩, .string ⟨#[]⟩]) (he := by kernel_rfl) (hsz := by kernel_rfl) (hz := by kernel_rfl) (hby := by kernel_rfl) rfl rfl (zt := ((⟨([] : List UInt8), ([] : List UInt8)⟩ : DRow) : DRow)) (dh.1.take d.1) (by kernel_rfl) hroom)) (lend_as (Nat.le_trans (Nat.le_of_eq (Nat.zero_add _)) hc.1)) rfl
    · cases hr

def bytealg_CompareString_dr : Nat → Nat → DrA
  | _, _ => ⟨[], [], [], [], [], false, []⟩
noncomputable def bytealg_CompareString_tb : List (CE CT Tryz.prog) := [cmpstr_ce]
noncomputable def bytealg_CompareString_lt : List (LE CT Tryz.prog) := []
noncomputable def bytealg_CompareString (x0 : List UInt8) (x1 : List UInt8) : Option ((Int) × (Unit)) :=
  (cmpstr x0 x1).bind fun r1 =>
  some (r1.1, ())
noncomputable def bytealg_CompareString_ce : CE CT Tryz.prog where
  f := 101
  args := [.one (.str), .one (.str)]
  hs := []
  res := .val (.one (.int .i64))
  outs := []
  m := fun d dh => bytealg_CompareString d.1 d.2.1
  ok := ce_ok mixedP Tryz.func101 (by kernel_rfl) (orcOf_ok bytealg_CompareString_tb) (dr := bytealg_CompareString_dr) (lps := lpsOf bytealg_CompareString_lt) (lps_fn (no_loop (by kernel_rfl))) (fun d dh => by kernel_rfl)

def strings_Compare_dr : Nat → Nat → DrA
  | _, _ => ⟨[], [], [], [], [], false, []⟩
noncomputable def strings_Compare_tb : List (CE CT Tryz.prog) := [bytealg_CompareString_ce]
noncomputable def strings_Compare_lt : List (LE CT Tryz.prog) := []
noncomputable def strings_Compare (x0 : List UInt8) (x1 : List UInt8) : Option ((Int) × (Unit)) :=
  (bytealg_CompareString x0 x1).bind fun r1 =>
  some (r1.1, ())
noncomputable def strings_Compare_ce : CE CT Tryz.prog where
  f := 55
  args := [.one (.str), .one (.str)]
  hs := []
  res := .val (.one (.int .i64))
  outs := []
  m := fun d dh => strings_Compare d.1 d.2.1
  ok := ce_ok mixedP Tryz.func55 (by kernel_rfl) (orcOf_ok strings_Compare_tb) (dr := strings_Compare_dr) (lps := lpsOf strings_Compare_lt) (lps_fn (no_loop (by kernel_rfl))) (fun d dh => by kernel_rfl)

def rows_at1_dr : Nat → Nat → DrA
  | _, _ => ⟨[], [], [], [], [], false, []⟩
noncomputable def rows_at1_tb : List (CE CT Tryz.prog) := [strings_Compare_ce]
noncomputable def rows_at1_lt : List (LE CT Tryz.prog) := []
noncomputable def rows_at1 (x0 : DRow) (x1 : List UInt8) : Option ((Int) × (Unit)) :=
  (strings_Compare x0.key x1).bind fun r1 =>
  some (r1.1, ())
noncomputable def rows_at1_ce : CE CT Tryz.prog where
  f := 54
  args := [.cod 3, .one (.str)]
  hs := []
  res := .val (.one (.int .i64))
  outs := []
  m := fun d dh => rows_at1 d.1 d.2.1
  ok := ce_ok mixedP Tryz.func54 (by kernel_rfl) (orcOf_ok rows_at1_tb) (dr := rows_at1_dr) (lps := lpsOf rows_at1_lt) (lps_fn (no_loop (by kernel_rfl))) (fun d dh => by kernel_rfl)

def slices_BinarySearchFunc_dr : Nat → Nat → DrA
  | _, _ => ⟨[], [], [], [], [], false, []⟩
noncomputable def slices_BinarySearchFunc_tb : List (CE CT Tryz.prog) := [rows_at1_ce]
noncomputable def slices_BinarySearchFunc_l1 (a : ((Nat) × (List UInt8) × (Unit) × (Int) × (Int) × (Int) × Unit) × ((List (DRow)) × Unit)) : Option ((((Nat) × (List UInt8) × (Unit) × (Int) × (Int) × (Int) × Unit) × ((List (DRow)) × Unit)) ⊕ ((((Nat) × (List UInt8) × (Unit) × (Int) × (Int) × Unit) × ((List (DRow)) × Unit)))) :=
  (bif (decide ((a.1.2.2.2.2.1 : Int) < a.1.2.2.2.2.2.1)) then
  let y1 : Int := (IntKind.i64.wrap (((IntKind.u64.wrap (IntKind.i64.wrap (a.1.2.2.2.2.1 + a.1.2.2.2.2.2.1))) : Int).fdiv (2 ^ min (1 : Int).toNat (IntKind.u64.bits))))
  (if 0 ≤ (y1 : Int) ∧ (y1 : Int) < ((a.1.1 : Nat) : Int) then
  (a.2.1[(0 + (y1 : Int).toNat)]?).bind fun e2 =>
  (rows_at1 e2 a.1.2.1).bind fun r3 =>
  (bif (decide ((r3.1 : Int) < 0)) then
  some (.inl ((a.1.1, a.1.2.1, (), a.1.2.2.2.1, (IntKind.i64.wrap (y1 + 1)), a.1.2.2.2.2.2.1, ()), (a.2.1, ())))
  else
  some (.inl ((a.1.1, a.1.2.1, (), a.1.2.2.2.1, a.1.2.2.2.2.1, y1, ()), (a.2.1, ()))))
  else none)
  else
  some (.inr ((a.1.1, a.1.2.1, (), a.1.2.2.2.1, a.1.2.2.2.2.1, ()), (a.2.1, ()))))
noncomputable def slices_BinarySearchFunc_e1 : LE CT Tryz.prog := ⟨3, [0, 1, 2, 8, 9, 10], [.one (.asz 3 0), .one (.str), .one (.fn 54), .one (.int .i64), .one (.int .i64), .one (.int .i64)], [.arr 48 3 true], [⟨.exit 0, [0, 1, 2, 8, 9], [.one (.asz 3 0), .one (.str), .one (.fn 54), .one (.int .i64), .one (.int .i64)], [.arr 48 3 true]⟩], slices_BinarySearchFunc_l1⟩
noncomputable def slices_BinarySearchFunc_lt : List (LE CT Tryz.prog) := [slices_BinarySearchFunc_e1]
theorem slices_BinarySearchFunc_e1_ok : LeOk slices_BinarySearchFunc_e1 (nthL (bodyOf Tryz.f53) 0) := fun A env h k z hk => le_ok (E := slices_BinarySearchFunc_e1) (orcOf_ok slices_BinarySearchFunc_tb) (dr := slices_BinarySearchFunc_dr) (lps := lpsOf slices_BinarySearchFunc_lt) (no_loop (by kernel_rfl)) (fun a => by kernel_rfl) env h k z hk
noncomputable def slices_BinarySearchFunc (x0 : Nat) (x1 : List UInt8) (h0 : List (DRow)) : Option (((Int) × (Bool) × Unit) × ((List (DRow)) × Unit)) :=
  (loopM slices_BinarySearchFunc_l1 ((x0, x1, (), ((x0 : Nat) : Int), 0, ((x0 : Nat) : Int), ()), (h0, ()))).bind fun b1 =>
  (bif (decide ((b1.1.2.2.2.2.1 : Int) < b1.1.2.2.2.1)) then
  (if 0 ≤ (b1.1.2.2.2.2.1 : Int) ∧ (b1.1.2.2.2.2.1 : Int) < ((b1.1.1 : Nat) : Int) then
  (b1.2.1[(0 + (b1.1.2.2.2.2.1 : Int).toNat)]?).bind fun e2 =>
  (rows_at1 e2 b1.1.2.1).bind fun r3 =>
  some ((b1.1.2.2.2.2.1, (decide ((r3.1 : Int) = 0)), ()), (b1.2.1, ()))
  else none)
  else
  some ((b1.1.2.2.2.2.1, false, ()), (b1.2.1, ())))
noncomputable def slices_BinarySearchFunc_ce : CE CT Tryz.prog where
  f := 53
  args := [.one (.asz 3 0), .one (.str), .one (.fn 54)]
  hs := [.arr 48 3 true]
  res := .tup [.one (.int .i64), .one (.bool)]
  outs := [.arr 48 3 true]
  m := fun d dh => slices_BinarySearchFunc d.1 d.2.1 dh.1
  ok := ce_ok mixedP Tryz.func53 (by kernel_rfl) (orcOf_ok slices_BinarySearchFunc_tb) (dr := slices_BinarySearchFunc_dr) (lps := lpsOf slices_BinarySearchFunc_lt) (lps_fn (lps_of (n := 1) (by kernel_rfl) fun i hi => match i, hi with | 0, _ => lp_ok (E := slices_BinarySearchFunc_e1) (by kernel_rfl) slices_BinarySearchFunc_e1_ok)) (fun d dh => by kernel_rfl)

def rows_at_dr : Nat → Nat → DrA
  | _, _ => ⟨[], [], [], [], [], false, []⟩
noncomputable def rows_at_tb : List (CE CT Tryz.prog) := [slices_BinarySearchFunc_ce]
noncomputable def rows_at_lt : List (LE CT Tryz.prog) := []
noncomputable def rows_at (x1 : List UInt8) (h0 : (Nat) × Unit) (h1 : List (DRow)) : Option (((Int) × (Bool) × Unit) × (((Nat) × Unit) × (List (DRow)) × Unit)) :=
  (slices_BinarySearchFunc h0.1 x1 h1).bind fun r1 =>
  some ((r1.1.1, r1.1.2.1, ()), ((h0.1, ()), r1.2.1, ()))
noncomputable def rows_at_ce : CE CT Tryz.prog where
  f := 31
  args := [.one (.ptr 0 0), .one (.str)]
  hs := [.obj 56 [.asz 3 1], .arr 48 3 true]
  res := .tup [.one (.int .i64), .one (.bool)]
  outs := [.obj 56 [.asz 3 1], .arr 48 3 true]
  m := fun d dh => rows_at d.2.1 dh.1 dh.2.1
  ok := ce_ok mixedP Tryz.func31 (by kernel_rfl) (orcOf_ok rows_at_tb) (dr := rows_at_dr) (lps := lpsOf rows_at_lt) (lps_fn (no_loop (by kernel_rfl))) (fun d dh => by kernel_rfl)

def rows_put_dr : Nat → Nat → DrA
  | 3, _ => ⟨[0, 1, 2, 4, 3, 5, 6, 7], [[], [0], [0, 1], [0, 1, 2], [], [], (List.range 6), (List.range 7)], [], [], [], false, []⟩
  | 4, _ => ⟨[0, 1, 2, 3, 5, 4, 6, 7, 8, 9, 10, 11], [[], [], [1], [1, 2], [1, 2, 3], [], [], [6], [1, 2, 3, 4, 5, 6, 7], (List.range 9), (List.range 10), (List.range 11)], [], [], [], false, [7]⟩
  | _, _ => ⟨[], [], [], [], [], false, []⟩
noncomputable def rows_put_tb : List (CE CT Tryz.prog) := [rows_at_ce, insert_ce]
noncomputable def rows_put_lt : List (LE CT Tryz.prog) := []
noncomputable def rows_put (x1 : DRow) (h0 : (Nat) × Unit) (h1 : List (DRow)) : Option ((Unit) × (((Nat) × Unit) × (Unit) × (List (DRow)) × Unit)) :=
  (rows_at x1.key (h0.1, ()) h1).bind fun r1 =>
  (bif r1.1.2.1 then
  (if 0 ≤ (r1.1.1 : Int) ∧ (r1.1.1 : Int) < ((r1.2.1.1 : Nat) : Int) then
  (r1.2.2.1[(0 + (r1.1.1 : Int).toNat)]?).bind fun e2 =>
  some ((), ((r1.2.1.1, ()), (), (r1.2.2.1.set (0 + (r1.1.1 : Int).toNat) x1), ()))
  else none)
  else
  (insert r1.2.1.1 r1.1.1 (0, 1, 1) r1.2.2.1 ([x1] : List (DRow))).bind fun r3 =>
  some ((), ((r3.1, ()), (), r3.2.2.2.1, ())))
noncomputable def rows_put_ce : CE CT Tryz.prog where
  f := 46
  args := [.one (.ptr 0 0), .cod 3]
  hs := [.obj 56 [.asz 3 1], .arr 48 3 false]
  res := .tup []
  outs := [.obj 56 [.asz 3 2], .dead, .arr 48 3 false]
  m := fun d dh => rows_put d.2.1 dh.1 dh.2.1
  ok := ce_ok mixedP Tryz.func46 (by kernel_rfl) (orcOf_ok rows_put_tb) (dr := rows_put_dr) (lps := lpsOf rows_put_lt) (lps_fn (no_loop (by kernel_rfl))) (fun d dh => by kernel_rfl)

def rows_Put_dr : Nat → Nat → DrA
  | _, _ => ⟨[], [], [], [], [], false, []⟩
noncomputable def rows_Put_tb : List (CE CT Tryz.prog) := [rows_known_ce, slices_ContainsFunc_ce, cloneEz26_ce, rows_put_ce]
noncomputable def rows_Put_l1 (a : ((Unit) × (Unit) × (List (DRow)) × (Int) × (Int) × Unit) × (((Nat) × (Bool) × Unit) × ((Nat) × Unit) × (List (DRow)) × (List (DRow)) × Unit)) : Option ((((Unit) × (Unit) × (List (DRow)) × (Int) × (Int) × Unit) × (((Nat) × (Bool) × Unit) × ((Nat) × Unit) × (List (DRow)) × (List (DRow)) × Unit)) ⊕ ((((Unit) × (Unit) × Unit) × (((Nat) × (Bool) × Unit) × ((Nat) × Unit) × (Unit) × (Unit) × (List (DRow)) × (List (DRow)) × Unit)))) :=
  (bif (decide ((a.1.2.2.2.2.1 : Int) < a.1.2.2.2.1)) then
  (getI a.1.2.2.1 a.1.2.2.2.2.1).bind fun e1 =>
  (rows_put e1 (a.2.2.1.1, ()) a.2.2.2.2.1).bind fun r2 =>
  some (.inl (((), (), a.1.2.2.1, a.1.2.2.2.1, (IntKind.i64.wrap (a.1.2.2.2.2.1 + 1)), ()), ((a.2.1.1, a.2.1.2.1, ()), (r2.2.1.1, ()), a.2.2.2.1, r2.2.2.2.1, ())))
  else
  some (.inr (((), (), ()), ((a.2.1.1, a.2.1.2.1, ()), (a.2.2.1.1, ()), (), (), a.2.2.2.1, a.2.2.2.2.1, ()))))
noncomputable def rows_Put_e1 : LE CT Tryz.prog := ⟨7, [0, 5, 22, 23, 24], [.one (.ptr 0 0), .one (.ptr 1 0), .one (.sl 3), .one (.int .i64), .one (.int .i64)], [.obj 58 [.asz 3 2, .bool], .obj 56 [.asz 3 3], .arr 48 3 false, .arr 48 3 false], [⟨.exit 1, [0, 5], [.one (.ptr 0 0), .one (.ptr 1 0)], [.obj 58 [.asz 3 4, .bool], .obj 56 [.asz 3 5], .dead, .dead, .arr 48 3 false, .arr 48 3 false]⟩], rows_Put_l1⟩
noncomputable def rows_Put_lt : List (LE CT Tryz.prog) := [rows_Put_e1]
theorem rows_Put_e1_ok : LeOk rows_Put_e1 (nthL (bodyOf Tryz.f18) 0) := fun A env h k z hk => le_ok (E := rows_Put_e1) (orcOf_ok rows_Put_tb) (dr := rows_Put_dr) (lps := lpsOf rows_Put_lt) (no_loop (by kernel_rfl)) (fun a => by kernel_rfl) env h k z hk
noncomputable def rows_Put (x1 : List (DRow)) (h0 : (Nat) × (Bool) × Unit) (h1 : List (DRow)) : Option ((Int) × (((Nat) × (Bool) × Unit) × (Unit) × (List (DRow)) × Unit)) :=
  (rows_known (h0.1, h0.2.1, ()) h1).bind fun r1 =>
  (bif (!r1.1) then
  some (1, ((r1.2.1.1, r1.2.1.2.1, ()), (), r1.2.2.1, ()))
  else
  (slices_ContainsFunc x1).bind fun r2 =>
  (bif r2.1 then
  some (2, ((r1.2.1.1, r1.2.1.2.1, ()), (), r1.2.2.1, ()))
  else
  (cloneEz26 r1.2.1.1 r1.2.2.1).bind fun r3 =>
  (loopM rows_Put_l1 (((), (), x1, (x1.length : Int), 0, ()), ((r1.2.1.1, r1.2.1.2.1, ()), (r3.1, ()), r3.2.1, r3.2.2.1, ()))).bind fun b4 =>
  (bif (decide ((400 : Int) < ((b4.2.2.1.1 : Nat) : Int))) then
  some (8, ((b4.2.1.1, b4.2.1.2.1, ()), (), b4.2.2.2.2.2.1, ()))
  else
  some (0, ((b4.2.2.1.1, b4.2.1.2.1, ()), (), b4.2.2.2.2.2.2.1, ())))))
noncomputable def rows_Put_ce : CE CT Tryz.prog where
  f := 18
  args := [.one (.ptr 0 0), .one (.sl 3)]
  hs := [.obj 58 [.asz 3 1, .bool], .arr 48 3 false]
  res := .val (.one (.int .i64))
  outs := [.obj 58 [.asz 3 2, .bool], .dead, .arr 48 3 false]
  m := fun d dh => rows_Put d.2.1 dh.1 dh.2.1
  ok := ce_ok mixedP Tryz.func18 (by kernel_rfl) (orcOf_ok rows_Put_tb) (dr := rows_Put_dr) (lps := lpsOf rows_Put_lt) (lps_fn (lps_of (n := 1) (by kernel_rfl) fun i hi => match i, hi with | 0, _ => lp_ok (E := rows_Put_e1) (by kernel_rfl) rows_Put_e1_ok)) (fun d dh => by kernel_rfl)

def span_ends_dr : Nat → Nat → DrA
  | 1, _ => ⟨[0, 4, 1, 2, 3, 5, 6, 7, 8, 9], [[], [0], [0, 1], [0, 1, 2], [], [4], [4, 5], [4, 5, 6], [0, 1, 2, 3], (List.range 9)], [5], [8], [0], false, []⟩
  | _, _ => ⟨[], [], [], [], [], false, []⟩
noncomputable def span_ends_tb : List (CE CT Tryz.prog) := []
noncomputable def span_ends_lt : List (LE CT Tryz.prog) := []
noncomputable def span_ends (x0 : DSpan) : Option (((DLow) × (DHigh) × Unit) × (Unit)) :=
  some (((⟨(⟨x0.lo⟩ : DText)⟩ : DLow), (⟨(⟨x0.hi⟩ : DText)⟩ : DHigh), ()), ())
noncomputable def span_ends_ce : CE CT Tryz.prog where
  f := 125
  args := [.cod 5]
  hs := []
  res := .tup [.cod 8, .cod 9]
  outs := []
  m := fun d dh => span_ends d.1
  ok := ce_ok mixedP Tryz.func125 (by kernel_rfl) (orcOf_ok span_ends_tb) (dr := span_ends_dr) (lps := lpsOf span_ends_lt) (lps_fn (no_loop (by kernel_rfl))) (fun d dh => by kernel_rfl)

def span_none_dr : Nat → Nat → DrA
  | _, _ => ⟨[], [], [], [], [], false, []⟩
noncomputable def span_none_tb : List (CE CT Tryz.prog) := []
noncomputable def span_none_lt : List (LE CT Tryz.prog) := []
noncomputable def span_none (x0 : DText) : Option ((Bool) × (Unit)) :=
  some ((decide (x0.s = ([] : List UInt8))), ())
noncomputable def span_none_ce : CE CT Tryz.prog where
  f := 126
  args := [.cod 7]
  hs := []
  res := .val (.one (.bool))
  outs := []
  m := fun d dh => span_none d.1
  ok := ce_ok mixedP Tryz.func126 (by kernel_rfl) (orcOf_ok span_none_tb) (dr := span_none_dr) (lps := lpsOf span_none_lt) (lps_fn (no_loop (by kernel_rfl))) (fun d dh => by kernel_rfl)

def cmp_isNaN_dr : Nat → Nat → DrA
  | _, _ => ⟨[], [], [], [], [], false, []⟩
noncomputable def cmp_isNaN_tb : List (CE CT Tryz.prog) := []
noncomputable def cmp_isNaN_lt : List (LE CT Tryz.prog) := []
noncomputable def cmp_isNaN (x0 : List UInt8) : Option ((Bool) × (Unit)) :=
  some ((decide (x0 ≠ x0)), ())
noncomputable def cmp_isNaN_ce : CE CT Tryz.prog where
  f := 148
  args := [.one (.str)]
  hs := []
  res := .val (.one (.bool))
  outs := []
  m := fun d dh => cmp_isNaN d.1
  ok := ce_ok mixedP Tryz.func148 (by kernel_rfl) (orcOf_ok cmp_isNaN_tb) (dr := cmp_isNaN_dr) (lps := lpsOf cmp_isNaN_lt) (lps_fn (no_loop (by kernel_rfl))) (fun d dh => by kernel_rfl)

def cmp_Compare_dr : Nat → Nat → DrA
  | _, _ => ⟨[], [], [], [], [], false, []⟩
noncomputable def cmp_Compare_tb : List (CE CT Tryz.prog) := [cmp_isNaN_ce]
noncomputable def cmp_Compare_lt : List (LE CT Tryz.prog) := []
noncomputable def cmp_Compare (x0 : List UInt8) (x1 : List UInt8) : Option ((Int) × (Unit)) :=
  (cmp_isNaN x0).bind fun r1 =>
  (cmp_isNaN x1).bind fun r2 =>
  (bif r1.1 then
  (bif r2.1 then
  some (0, ())
  else
  some ((-1), ()))
  else
  (bif r2.1 then
  some (1, ())
  else
  (bif (decide (x0 < x1)) then
  some ((-1), ())
  else
  (bif (!(decide (x0 < x1) || decide (x0 = x1))) then
  some (1, ())
  else
  some (0, ())))))
noncomputable def cmp_Compare_ce : CE CT Tryz.prog where
  f := 146
  args := [.one (.str), .one (.str)]
  hs := []
  res := .val (.one (.int .i64))
  outs := []
  m := fun d dh => cmp_Compare d.1 d.2.1
  ok := ce_ok mixedP Tryz.func146 (by kernel_rfl) (orcOf_ok cmp_Compare_tb) (dr := cmp_Compare_dr) (lps := lpsOf cmp_Compare_lt) (lps_fn (no_loop (by kernel_rfl))) (fun d dh => by kernel_rfl)

def span_compare_dr : Nat → Nat → DrA
  | _, _ => ⟨[], [], [], [], [], false, []⟩
noncomputable def span_compare_tb : List (CE CT Tryz.prog) := [cmp_Compare_ce]
noncomputable def span_compare_lt : List (LE CT Tryz.prog) := []
noncomputable def span_compare (x0 : DText) (x1 : DText) : Option ((Int) × (Unit)) :=
  (cmp_Compare x0.s x1.s).bind fun r1 =>
  some (r1.1, ())
noncomputable def span_compare_ce : CE CT Tryz.prog where
  f := 143
  args := [.cod 7, .cod 7]
  hs := []
  res := .val (.one (.int .i64))
  outs := []
  m := fun d dh => span_compare d.1 d.2.1
  ok := ce_ok mixedP Tryz.func143 (by kernel_rfl) (orcOf_ok span_compare_tb) (dr := span_compare_dr) (lps := lpsOf span_compare_lt) (lps_fn (no_loop (by kernel_rfl))) (fun d dh => by kernel_rfl)

def span_above_dr : Nat → Nat → DrA
  | _, _ => ⟨[], [], [], [], [], false, []⟩
noncomputable def span_above_tb : List (CE CT Tryz.prog) := [span_none_ce, span_compare_ce]
noncomputable def span_above_lt : List (LE CT Tryz.prog) := []
noncomputable def span_above (x0 : DHigh) (x1 : DText) : Option ((Bool) × (Unit)) :=
  (span_none x0.text).bind fun r1 =>
  (bif r1.1 then
  some (true, ())
  else
  (span_compare x0.text x1).bind fun r2 =>
  some ((decide ((0 : Int) < r2.1)), ()))
noncomputable def span_above_ce : CE CT Tryz.prog where
  f := 127
  args := [.cod 9, .cod 7]
  hs := []
  res := .val (.one (.bool))
  outs := []
  m := fun d dh => span_above d.1 d.2.1
  ok := ce_ok mixedP Tryz.func127 (by kernel_rfl) (orcOf_ok span_above_tb) (dr := span_above_dr) (lps := lpsOf span_above_lt) (lps_fn (no_loop (by kernel_rfl))) (fun d dh => by kernel_rfl)

def span_Right_dr : Nat → Nat → DrA
  | _, _ => ⟨[], [], [], [], [], false, []⟩
noncomputable def span_Right_tb : List (CE CT Tryz.prog) := [span_ends_ce, span_none_ce, span_above_ce, span_Key_ce]
noncomputable def span_Right_lt : List (LE CT Tryz.prog) := []
noncomputable def span_Right (x0 : DSpan) : Option ((Bool) × (Unit)) :=
  (span_ends x0).bind fun r1 =>
  (span_none r1.1.1.text).bind fun r2 =>
  (bif r2.1 then
  (span_none r1.1.2.1.text).bind fun r3 =>
  (bif r3.1 then
  (span_above r1.1.2.1 r1.1.1.text).bind fun r4 =>
  some (r4.1, ())
  else
  (span_Key x0.hi).bind fun r5 =>
  (bif r5.1 then
  (span_above r1.1.2.1 r1.1.1.text).bind fun r6 =>
  some (r6.1, ())
  else
  some (false, ())))
  else
  (span_Key x0.lo).bind fun r7 =>
  (bif r7.1 then
  (span_none r1.1.2.1.text).bind fun r8 =>
  (bif r8.1 then
  (span_above r1.1.2.1 r1.1.1.text).bind fun r9 =>
  some (r9.1, ())
  else
  (span_Key x0.hi).bind fun r10 =>
  (bif r10.1 then
  (span_above r1.1.2.1 r1.1.1.text).bind fun r11 =>
  some (r11.1, ())
  else
  some (false, ())))
  else
  some (false, ())))
noncomputable def span_Right_ce : CE CT Tryz.prog where
  f := 78
  args := [.cod 5]
  hs := []
  res := .val (.one (.bool))
  outs := []
  m := fun d dh => span_Right d.1
  ok := ce_ok mixedP Tryz.func78 (by kernel_rfl) (orcOf_ok span_Right_tb) (dr := span_Right_dr) (lps := lpsOf span_Right_lt) (lps_fn (no_loop (by kernel_rfl))) (fun d dh => by kernel_rfl)

def rows_at_2_dr : Nat → Nat → DrA
  | _, _ => ⟨[], [], [], [], [], false, []⟩
noncomputable def rows_at_2_tb : List (CE CT Tryz.prog) := [slices_BinarySearchFunc_ce]
noncomputable def rows_at_2_lt : List (LE CT Tryz.prog) := []
noncomputable def rows_at_2 (x1 : List UInt8) (h0 : (Nat) × (Bool) × Unit) (h1 : List (DRow)) : Option (((Int) × (Bool) × Unit) × (((Nat) × (Bool) × Unit) × (List (DRow)) × Unit)) :=
  (slices_BinarySearchFunc h0.1 x1 h1).bind fun r1 =>
  some ((r1.1.1, r1.1.2.1, ()), ((h0.1, h0.2.1, ()), r1.2.1, ()))
noncomputable def rows_at_2_ce : CE CT Tryz.prog where
  f := 31
  args := [.one (.ptr 0 0), .one (.str)]
  hs := [.obj 58 [.asz 3 1, .bool], .arr 48 3 true]
  res := .tup [.one (.int .i64), .one (.bool)]
  outs := [.obj 58 [.asz 3 1, .bool], .arr 48 3 true]
  m := fun d dh => rows_at_2 d.2.1 dh.1 dh.2.1
  ok := ce_ok mixedP Tryz.func31 (by kernel_rfl) (orcOf_ok rows_at_2_tb) (dr := rows_at_2_dr) (lps := lpsOf rows_at_2_lt) (lps_fn (no_loop (by kernel_rfl))) (fun d dh => by kernel_rfl)

def rows_bounds_dr : Nat → Nat → DrA
  | _, _ => ⟨[], [], [], [], [], false, []⟩
noncomputable def rows_bounds_tb : List (CE CT Tryz.prog) := [span_Right_ce, rows_at_2_ce]
noncomputable def rows_bounds_lt : List (LE CT Tryz.prog) := []
noncomputable def rows_bounds (x1 : DSpan) (h0 : (Nat) × (Bool) × Unit) (h1 : List (DRow)) : Option (((Int) × (Int) × Unit) × (((Nat) × (Bool) × Unit) × (List (DRow)) × Unit)) :=
  (span_Right x1).bind fun r1 =>
  (bif (!r1.1) then
  some ((0, 0, ()), ((h0.1, h0.2.1, ()), h1, ()))
  else
  (rows_at_2 x1.lo (h0.1, h0.2.1, ()) h1).bind fun r2 =>
  (bif (decide (x1.hi ≠ ([] : List UInt8))) then
  (rows_at_2 x1.hi (r2.2.1.1, r2.2.1.2.1, ()) r2.2.2.1).bind fun r3 =>
  some ((r2.1.1, r3.1.1, ()), ((r3.2.1.1, r3.2.1.2.1, ()), r3.2.2.1, ()))
  else
  some ((r2.1.1, ((r2.2.1.1 : Nat) : Int), ()), ((r2.2.1.1, r2.2.1.2.1, ()), r2.2.2.1, ()))))
noncomputable def rows_bounds_ce : CE CT Tryz.prog where
  f := 34
  args := [.one (.ptr 0 0), .cod 5]
  hs := [.obj 58 [.asz 3 1, .bool], .arr 48 3 true]
  res := .tup [.one (.int .i64), .one (.int .i64)]
  outs := [.obj 58 [.asz 3 1, .bool], .arr 48 3 true]
  m := fun d dh => rows_bounds d.2.1 dh.1 dh.2.1
  ok := ce_ok mixedP Tryz.func34 (by kernel_rfl) (orcOf_ok rows_bounds_tb) (dr := rows_bounds_dr) (lps := lpsOf rows_bounds_lt) (lps_fn (no_loop (by kernel_rfl))) (fun d dh => by kernel_rfl)

noncomputable def cloneRu26 (x0 : Nat × Nat) (h0 : List (DRow)) : Option (List (DRow) × (List (DRow) × Unit × Unit)) :=
  if x0.1 + x0.2 ≤ h0.length ∧ ((h0.drop x0.1).take x0.2).length ≤ 140737488355328 ∧ ((h0.drop x0.1).take x0.2).length * 32 ≤ 140737488355328 then some (((h0.drop x0.1).take x0.2), (h0, (), ())) else none
noncomputable def cloneRu26_ce : CE CT Tryz.prog where
  f := 26
  args := [.one (.asu 3 0)]
  hs := [.arr 48 3 true]
  res := .val (.one (.own 3 1))
  outs := [.arr 48 3 true, .row 48 2]
  m := fun d dh => cloneRu26 d.1 dh.1
  ok := fun d dh r hr => by
    unfold cloneRu26 at hr
    split at hr
    · rename_i hc
      injection hr with hr
      subst hr
      have hroom := hc.2
      exact Tr.lendRow (fun x => rfl) rfl (U0 := fun _ => True) (clone_tr mixedP Tryz.func26 (by kernel_rfl) rfl rfl (zv := .agg #[.string ⟨#[]⟩, .string ⟨#[]⟩]) (he := by kernel_rfl) (hsz := by kernel_rfl) (hz := by kernel_rfl) (hby := by kernel_rfl) rfl rfl ((dh.1.drop d.1.1).take d.1.2) hroom) (lend_as (Nat.le_trans (Nat.le_of_eq rfl) hc.1)) 
    · cases hr

def rows_In_dr : Nat → Nat → DrA
  | 3, _ => ⟨(List.range 10), [[], [0], [0, 1], [], [0, 1, 2, 3], (List.range 5), (List.range 6), (List.range 6), (List.range 7), (List.range 9)], [], [], [], false, []⟩
  | _, _ => ⟨[], [], [], [], [], false, []⟩
noncomputable def rows_In_tb : List (CE CT Tryz.prog) := [rows_known_ce, rows_bounds_ce, cloneRu26_ce]
noncomputable def rows_In_lt : List (LE CT Tryz.prog) := []
noncomputable def rows_In (x1 : DSpan) (h0 : (Nat) × (Bool) × Unit) (h1 : List (DRow)) : Option ((List (DRow)) × (((Nat) × (Bool) × Unit) × (List (DRow)) × (Unit) × Unit)) :=
  (rows_known (h0.1, h0.2.1, ()) h1).bind fun r1 =>
  (bif (!r1.1) then
  some ([], ((r1.2.1.1, r1.2.1.2.1, ()), r1.2.2.1, (), ()))
  else
  (rows_bounds x1 (r1.2.1.1, r1.2.1.2.1, ()) r1.2.2.1).bind fun r2 =>
  (if 0 ≤ ((r2.1.1 : Int) : Int) ∧ ((r2.1.1 : Int) : Int) ≤ (r2.1.2.1 : Int) ∧ (r2.1.2.1 : Int) ≤ ((r2.2.1.1 : Nat) : Int) ∧ (r2.1.2.1 : Int) ≤ 140737488355328 then
  (cloneRu26 ((0 + (r2.1.1 : Int).toNat), ((r2.1.2.1 : Int).toNat - (r2.1.1 : Int).toNat)) r2.2.2.1).bind fun r3 =>
  some (r3.1, ((r2.2.1.1, r2.2.1.2.1, ()), r3.2.1, (), ()))
  else none))
noncomputable def rows_In_ce : CE CT Tryz.prog where
  f := 16
  args := [.one (.ptr 0 0), .cod 5]
  hs := [.obj 58 [.asz 3 1, .bool], .arr 48 3 true]
  res := .val (.one (.own 3 2))
  outs := [.obj 58 [.asz 3 1, .bool], .arr 48 3 true, .row 48 2]
  m := fun d dh => rows_In d.2.1 dh.1 dh.2.1
  ok := ce_ok mixedP Tryz.func16 (by kernel_rfl) (orcOf_ok rows_In_tb) (dr := rows_In_dr) (lps := lpsOf rows_In_lt) (lps_fn (no_loop (by kernel_rfl))) (fun d dh => by kernel_rfl)

def rows_Take_dr : Nat → Nat → DrA
  | 3, _ => ⟨(List.range 10), [[], [0], [0, 1], [], [0, 1, 2, 3], (List.range 5), (List.range 6), (List.range 6), (List.range 7), (List.range 9)], [], [], [], false, []⟩
  | _, _ => ⟨[], [], [], [], [], false, []⟩
noncomputable def rows_Take_tb : List (CE CT Tryz.prog) := [rows_In_ce, rows_known_ce, rows_bounds_ce, delete_ce]
noncomputable def rows_Take_lt : List (LE CT Tryz.prog) := []
noncomputable def rows_Take (x1 : DSpan) (h0 : (Nat) × (Bool) × Unit) (h1 : List (DRow)) : Option ((List (DRow)) × (((Nat) × (Bool) × Unit) × (Unit) × (Unit) × (List (DRow)) × Unit)) :=
  (rows_In x1 (h0.1, h0.2.1, ()) h1).bind fun r1 =>
  (rows_known (r1.2.1.1, r1.2.1.2.1, ()) r1.2.2.1).bind fun r2 =>
  (bif r2.1 then
  (rows_bounds x1 (r2.2.1.1, r2.2.1.2.1, ()) r2.2.2.1).bind fun r3 =>
  (delete r3.2.1.1 r3.1.1 r3.1.2.1 r3.2.2.1).bind fun r4 =>
  some (r1.1, ((r4.1, r3.2.1.2.1, ()), (), (), r4.2.2.1, ()))
  else
  some (r1.1, ((r2.2.1.1, r2.2.1.2.1, ()), (), (), r2.2.2.1, ())))
noncomputable def rows_Take_ce : CE CT Tryz.prog where
  f := 21
  args := [.one (.ptr 0 0), .cod 5]
  hs := [.obj 58 [.asz 3 1, .bool], .arr 48 3 false]
  res := .val (.one (.own 3 2))
  outs := [.obj 58 [.asz 3 3, .bool], .dead, .row 48 2, .arr 48 3 false]
  m := fun d dh => rows_Take d.2.1 dh.1 dh.2.1
  ok := ce_ok mixedP Tryz.func21 (by kernel_rfl) (orcOf_ok rows_Take_tb) (dr := rows_Take_dr) (lps := lpsOf rows_Take_lt) (lps_fn (no_loop (by kernel_rfl))) (fun d dh => by kernel_rfl)

def watershedkit_SameLines_dr : Nat → Nat → DrA
  | 6, _ => ⟨[0, 1, 2, 4, 5, 6, 3, 7, 8], [[], [], [0, 1], [0, 1, 2], [], [], [4, 5], [4, 5, 6], (List.range 8)], [], [], [], false, []⟩
  | _, _ => ⟨[], [], [], [], [], false, []⟩
noncomputable def watershedkit_SameLines_tb : List (CE CT Tryz.prog) := []
noncomputable def watershedkit_SameLines_l1 (a : ((List (DRow)) × (List (DRow)) × (Int) × Unit) × (Unit)) : Option ((((List (DRow)) × (List (DRow)) × (Int) × Unit) × (Unit)) ⊕ ((((Bool) × Unit) × (Unit)) ⊕ ((Unit) × (Unit)))) :=
  (bif (decide ((a.1.2.2.1 : Int) < (a.1.1.length : Int))) then
  (getI a.1.1 a.1.2.2.1).bind fun e1 =>
  (getI a.1.2.1 a.1.2.2.1).bind fun e2 =>
  (bif (!(decide (e1.key = e2.key) && (decide (e1.value = e2.value) && true))) then
  some (.inr (.inl ((false, ()), ())))
  else
  some (.inl ((a.1.1, a.1.2.1, (IntKind.i64.wrap (a.1.2.2.1 + 1)), ()), ())))
  else
  some (.inr (.inr ((), ()))))
noncomputable def watershedkit_SameLines_e1 : LE CT Tryz.prog := ⟨4, [0, 1, 5], [.one (.sl 3), .one (.sl 3), .one (.int .i64)], [], [⟨.ret, [4], [.one (.bool)], []⟩, ⟨.exit 0, [], [], []⟩], watershedkit_SameLines_l1⟩
noncomputable def watershedkit_SameLines_lt : List (LE CT Tryz.prog) := [watershedkit_SameLines_e1]
theorem watershedkit_SameLines_e1_ok : LeOk watershedkit_SameLines_e1 (nthL (bodyOf Tryz.f24) 0) := fun A env h k z hk => le_ok (E := watershedkit_SameLines_e1) (orcOf_ok watershedkit_SameLines_tb) (dr := watershedkit_SameLines_dr) (lps := lpsOf watershedkit_SameLines_lt) (no_loop (by kernel_rfl)) (fun a => by kernel_rfl) env h k z hk
noncomputable def watershedkit_SameLines (x0 : List (DRow)) (x1 : List (DRow)) : Option ((Bool) × (Unit)) :=
  (bif (decide (((x0.length : Int) : Int) ≠ (x1.length : Int))) then
  some (false, ())
  else
  (loopM watershedkit_SameLines_l1 ((x0, x1, 0, ()), ())).bind fun b1 =>
  (match b1 with
  | .inl b2 =>
  some (b2.1.1, ())
  | .inr b3 =>
  some (true, ())))
noncomputable def watershedkit_SameLines_ce : CE CT Tryz.prog where
  f := 24
  args := [.one (.sl 3), .one (.sl 3)]
  hs := []
  res := .val (.one (.bool))
  outs := []
  m := fun d dh => watershedkit_SameLines d.1 d.2.1
  ok := ce_ok mixedP Tryz.func24 (by kernel_rfl) (orcOf_ok watershedkit_SameLines_tb) (dr := watershedkit_SameLines_dr) (lps := lpsOf watershedkit_SameLines_lt) (lps_fn (lps_of (n := 1) (by kernel_rfl) fun i hi => match i, hi with | 0, _ => lp_ok (E := watershedkit_SameLines_e1) (by kernel_rfl) watershedkit_SameLines_e1_ok)) (fun d dh => by kernel_rfl)

def rows_Many_dr : Nat → Nat → DrA
  | _, _ => ⟨[], [], [], [], [], false, []⟩
noncomputable def rows_Many_tb : List (CE CT Tryz.prog) := [rows_known_ce]
noncomputable def rows_Many_lt : List (LE CT Tryz.prog) := []
noncomputable def rows_Many (h0 : (Nat) × (Bool) × Unit) (h1 : List (DRow)) : Option ((Int) × (((Nat) × (Bool) × Unit) × (List (DRow)) × Unit)) :=
  (rows_known (h0.1, h0.2.1, ()) h1).bind fun r1 =>
  (bif (!r1.1) then
  some (0, ((r1.2.1.1, r1.2.1.2.1, ()), r1.2.2.1, ()))
  else
  some (((r1.2.1.1 : Nat) : Int), ((r1.2.1.1, r1.2.1.2.1, ()), r1.2.2.1, ())))
noncomputable def rows_Many_ce : CE CT Tryz.prog where
  f := 20
  args := [.one (.ptr 0 0)]
  hs := [.obj 58 [.asz 3 1, .bool], .arr 48 3 true]
  res := .val (.one (.int .i64))
  outs := [.obj 58 [.asz 3 1, .bool], .arr 48 3 true]
  m := fun d dh => rows_Many dh.1 dh.2.1
  ok := ce_ok mixedP Tryz.func20 (by kernel_rfl) (orcOf_ok rows_Many_tb) (dr := rows_Many_dr) (lps := lpsOf rows_Many_lt) (lps_fn (no_loop (by kernel_rfl))) (fun d dh => by kernel_rfl)

def watershedlaw15_awake_dr : Nat → Nat → DrA
  | _, _ => ⟨[], [], [], [], [], false, []⟩
noncomputable def watershedlaw15_awake_tb : List (CE CT Tryz.prog) := [rows_New_ce, rows_Put_ce, rows_In_ce, rows_Take_ce, watershedkit_SameLines_ce, rows_Many_ce]
noncomputable def watershedlaw15_awake_lt : List (LE CT Tryz.prog) := []
noncomputable def watershedlaw15_awake  : Option ((Bool) × (Unit)) :=
  (rows_New).bind fun r1 =>
  (rows_Put ([(⟨([98] : List UInt8), ([49] : List UInt8)⟩ : DRow), (⟨([97] : List UInt8), ([50] : List UInt8)⟩ : DRow), (⟨([98] : List UInt8), ([51] : List UInt8)⟩ : DRow)] : List (DRow)) (r1.2.1.1, r1.2.1.2.1, ()) r1.2.2.1).bind fun r2 =>
  (rows_In (⟨([] : List UInt8), ([] : List UInt8)⟩ : DSpan) (r2.2.1.1, r2.2.1.2.1, ()) r2.2.2.2.1).bind fun r3 =>
  (rows_Take (⟨([97] : List UInt8), ([98] : List UInt8)⟩ : DSpan) (r3.2.1.1, r3.2.1.2.1, ()) r3.2.2.1).bind fun r4 =>
  (bif (decide ((r2.1 : Int) = 0)) then
  (watershedkit_SameLines r3.1 ([(⟨([97] : List UInt8), ([50] : List UInt8)⟩ : DRow), (⟨([98] : List UInt8), ([51] : List UInt8)⟩ : DRow)] : List (DRow))).bind fun r5 =>
  (bif r5.1 then
  (watershedkit_SameLines r4.1 ([(⟨([97] : List UInt8), ([50] : List UInt8)⟩ : DRow)] : List (DRow))).bind fun r6 =>
  (bif r6.1 then
  (rows_Many (r4.2.1.1, r4.2.1.2.1, ()) r4.2.2.2.2.1).bind fun r7 =>
  some ((decide ((r7.1 : Int) = 1)), ())
  else
  some (false, ()))
  else
  some (false, ()))
  else
  some (false, ()))
noncomputable def watershedlaw15_awake_ce : CE CT Tryz.prog where
  f := 6
  args := []
  hs := []
  res := .val (.one (.bool))
  outs := []
  m := fun d dh => watershedlaw15_awake
  ok := ce_ok mixedP Tryz.func6 (by kernel_rfl) (orcOf_ok watershedlaw15_awake_tb) (dr := watershedlaw15_awake_dr) (lps := lpsOf watershedlaw15_awake_lt) (lps_fn (no_loop (by kernel_rfl))) (fun d dh => by kernel_rfl)

def watershedkit_Pick_dr : Nat → Nat → DrA
  | _, _ => ⟨[], [], [], [], [], false, []⟩
noncomputable def watershedkit_Pick_tb : List (CE CT Tryz.prog) := []
noncomputable def watershedkit_Pick_lt : List (LE CT Tryz.prog) := []
noncomputable def watershedkit_Pick (x0 : Int) (x1 : Int) : Option ((Int) × (Unit)) :=
  (bif (decide ((x1 : Int) < 1)) then
  some (0, ())
  else
  (if (x1 : Int) = 0 then none else
  (bif (decide ((((x0 : Int).tmod x1) : Int) < 0)) then
  some ((IntKind.i64.wrap (((x0 : Int).tmod x1) + x1)), ())
  else
  some (((x0 : Int).tmod x1), ()))))
noncomputable def watershedkit_Pick_ce : CE CT Tryz.prog where
  f := 8
  args := [.one (.int .i64), .one (.int .i64)]
  hs := []
  res := .val (.one (.int .i64))
  outs := []
  m := fun d dh => watershedkit_Pick d.1 d.2.1
  ok := ce_ok mixedP Tryz.func8 (by kernel_rfl) (orcOf_ok watershedkit_Pick_tb) (dr := watershedkit_Pick_dr) (lps := lpsOf watershedkit_Pick_lt) (lps_fn (no_loop (by kernel_rfl))) (fun d dh => by kernel_rfl)

def rows_Copy_dr : Nat → Nat → DrA
  | _, _ => ⟨[], [], [], [], [], false, []⟩
noncomputable def rows_Copy_tb : List (CE CT Tryz.prog) := [rows_known_ce, cloneEz26_ce]
noncomputable def rows_Copy_lt : List (LE CT Tryz.prog) := []
noncomputable def rows_Copy (h0 : (Nat) × (Bool) × Unit) (h1 : List (DRow)) : Option ((Unit) × (((Nat) × (Bool) × Unit) × (List (DRow)) × ((Nat) × (Bool) × Unit) × (List (DRow)) × Unit)) :=
  (rows_known (h0.1, h0.2.1, ()) h1).bind fun r1 =>
  (bif (!r1.1) then
  none
  else
  (cloneEz26 r1.2.1.1 r1.2.2.1).bind fun r2 =>
  some ((), ((r1.2.1.1, r1.2.1.2.1, ()), r2.2.1, (r2.1, true, ()), r2.2.2.1, ())))
noncomputable def rows_Copy_ce : CE CT Tryz.prog where
  f := 9
  args := [.one (.ptr 0 0)]
  hs := [.obj 58 [.asz 3 1, .bool], .arr 48 3 true]
  res := .val (.one (.ptr 2 0))
  outs := [.obj 58 [.asz 3 1, .bool], .arr 48 3 true, .obj 58 [.asz 3 3, .bool], .arr 48 3 false]
  m := fun d dh => rows_Copy dh.1 dh.2.1
  ok := ce_ok mixedP Tryz.func9 (by kernel_rfl) (orcOf_ok rows_Copy_tb) (dr := rows_Copy_dr) (lps := lpsOf rows_Copy_lt) (lps_fn (no_loop (by kernel_rfl))) (fun d dh => by kernel_rfl)

def watershedkit_CopyLines_dr : Nat → Nat → DrA
  | _, _ => ⟨[], [], [], [], [], false, []⟩
noncomputable def watershedkit_CopyLines_tb : List (CE CT Tryz.prog) := []
noncomputable def watershedkit_CopyLines_lt : List (LE CT Tryz.prog) := []
noncomputable def watershedkit_CopyLines (x0 : List (DRow)) : Option ((List (DRow)) × ((Unit) × Unit)) :=
  (if x0.length ≤ 140737488355328 ∧ x0.length * 32 ≤ 140737488355328 then
  some (x0, ((), ()))
  else none)
noncomputable def watershedkit_CopyLines_ce : CE CT Tryz.prog where
  f := 10
  args := [.one (.sl 3)]
  hs := []
  res := .val (.one (.own 3 0))
  outs := [.row 48 2]
  m := fun d dh => watershedkit_CopyLines d.1
  ok := ce_ok mixedP Tryz.func10 (by kernel_rfl) (orcOf_ok watershedkit_CopyLines_tb) (dr := watershedkit_CopyLines_dr) (lps := lpsOf watershedkit_CopyLines_lt) (lps_fn (no_loop (by kernel_rfl))) (fun d dh => by kernel_rfl)

def watershedref04_Key_dr : Nat → Nat → DrA
  | _, _ => ⟨[], [], [], [], [], false, []⟩
noncomputable def watershedref04_Key_tb : List (CE CT Tryz.prog) := []
noncomputable def watershedref04_Key_l1 (a : ((List UInt8) × (Int) × Unit) × (Unit)) : Option ((((List UInt8) × (Int) × Unit) × (Unit)) ⊕ ((((Bool) × Unit) × (Unit)) ⊕ ((Unit) × (Unit)))) :=
  (bif (decide ((a.1.2.1 : Int) < (a.1.1.length : Int))) then
  (getI a.1.1 a.1.2.1).bind fun e1 =>
  (bif (decide ((97 : Int) ≤ (e1.toNat : Int))) then
  (getI a.1.1 a.1.2.1).bind fun e2 =>
  (bif (decide (((e2.toNat : Int) : Int) ≤ 122)) then
  some (.inl ((a.1.1, (IntKind.i64.wrap (a.1.2.1 + 1)), ()), ()))
  else
  (getI a.1.1 a.1.2.1).bind fun e3 =>
  (bif (decide ((48 : Int) ≤ (e3.toNat : Int))) then
  (getI a.1.1 a.1.2.1).bind fun e4 =>
  (bif (!(decide (((e4.toNat : Int) : Int) ≤ 57))) then
  some (.inr (.inl ((false, ()), ())))
  else
  some (.inl ((a.1.1, (IntKind.i64.wrap (a.1.2.1 + 1)), ()), ())))
  else
  some (.inr (.inl ((false, ()), ())))))
  else
  (getI a.1.1 a.1.2.1).bind fun e5 =>
  (bif (decide ((48 : Int) ≤ (e5.toNat : Int))) then
  (getI a.1.1 a.1.2.1).bind fun e6 =>
  (bif (!(decide (((e6.toNat : Int) : Int) ≤ 57))) then
  some (.inr (.inl ((false, ()), ())))
  else
  some (.inl ((a.1.1, (IntKind.i64.wrap (a.1.2.1 + 1)), ()), ())))
  else
  some (.inr (.inl ((false, ()), ())))))
  else
  some (.inr (.inr ((), ()))))
noncomputable def watershedref04_Key_e1 : LE CT Tryz.prog := ⟨4, [0, 3], [.one (.str), .one (.int .i64)], [], [⟨.ret, [2], [.one (.bool)], []⟩, ⟨.exit 0, [], [], []⟩], watershedref04_Key_l1⟩
noncomputable def watershedref04_Key_lt : List (LE CT Tryz.prog) := [watershedref04_Key_e1]
theorem watershedref04_Key_e1_ok : LeOk watershedref04_Key_e1 (nthL (bodyOf Tryz.f95) 0) := fun A env h k z hk => le_ok (E := watershedref04_Key_e1) (orcOf_ok watershedref04_Key_tb) (dr := watershedref04_Key_dr) (lps := lpsOf watershedref04_Key_lt) (no_loop (by kernel_rfl)) (fun a => by kernel_rfl) env h k z hk
noncomputable def watershedref04_Key (x0 : List UInt8) : Option ((Bool) × (Unit)) :=
  (bif (decide (((x0.length : Int) : Int) < 1)) then
  some (false, ())
  else
  (bif (decide ((20 : Int) < (x0.length : Int))) then
  some (false, ())
  else
  (loopM watershedref04_Key_l1 ((x0, 0, ()), ())).bind fun b1 =>
  (match b1 with
  | .inl b2 =>
  some (b2.1.1, ())
  | .inr b3 =>
  some (true, ()))))
noncomputable def watershedref04_Key_ce : CE CT Tryz.prog where
  f := 95
  args := [.one (.str)]
  hs := []
  res := .val (.one (.bool))
  outs := []
  m := fun d dh => watershedref04_Key d.1
  ok := ce_ok mixedP Tryz.func95 (by kernel_rfl) (orcOf_ok watershedref04_Key_tb) (dr := watershedref04_Key_dr) (lps := lpsOf watershedref04_Key_lt) (lps_fn (lps_of (n := 1) (by kernel_rfl) fun i hi => match i, hi with | 0, _ => lp_ok (E := watershedref04_Key_e1) (by kernel_rfl) watershedref04_Key_e1_ok)) (fun d dh => by kernel_rfl)

def watershedref04_Right_dr : Nat → Nat → DrA
  | _, _ => ⟨[], [], [], [], [], false, []⟩
noncomputable def watershedref04_Right_tb : List (CE CT Tryz.prog) := [watershedref04_Key_ce]
noncomputable def watershedref04_Right_lt : List (LE CT Tryz.prog) := []
noncomputable def watershedref04_Right (x0 : DSpan) : Option ((Bool) × (Unit)) :=
  (bif (decide (x0.lo ≠ ([] : List UInt8))) then
  (watershedref04_Key x0.lo).bind fun r1 =>
  (bif (!r1.1) then
  some (false, ())
  else
  (bif (decide (x0.hi = ([] : List UInt8))) then
  some (true, ())
  else
  (watershedref04_Key x0.hi).bind fun r2 =>
  (bif r2.1 then
  some ((decide (x0.lo < x0.hi)), ())
  else
  some (false, ()))))
  else
  (bif (decide (x0.hi = ([] : List UInt8))) then
  some (true, ())
  else
  (watershedref04_Key x0.hi).bind fun r3 =>
  (bif r3.1 then
  some ((decide (x0.lo < x0.hi)), ())
  else
  some (false, ()))))
noncomputable def watershedref04_Right_ce : CE CT Tryz.prog where
  f := 99
  args := [.cod 5]
  hs := []
  res := .val (.one (.bool))
  outs := []
  m := fun d dh => watershedref04_Right d.1
  ok := ce_ok mixedP Tryz.func99 (by kernel_rfl) (orcOf_ok watershedref04_Right_tb) (dr := watershedref04_Right_dr) (lps := lpsOf watershedref04_Right_lt) (lps_fn (no_loop (by kernel_rfl))) (fun d dh => by kernel_rfl)

def watershedref04_Has_dr : Nat → Nat → DrA
  | _, _ => ⟨[], [], [], [], [], false, []⟩
noncomputable def watershedref04_Has_tb : List (CE CT Tryz.prog) := [watershedref04_Right_ce, watershedref04_Key_ce]
noncomputable def watershedref04_Has_lt : List (LE CT Tryz.prog) := []
noncomputable def watershedref04_Has (x0 : DSpan) (x1 : List UInt8) : Option ((Bool) × (Unit)) :=
  (watershedref04_Right x0).bind fun r1 =>
  (bif r1.1 then
  (watershedref04_Key x1).bind fun r2 =>
  (bif r2.1 then
  (bif (decide (x0.lo < x1) || decide (x0.lo = x1)) then
  (bif (decide (x0.hi = ([] : List UInt8))) then
  some (true, ())
  else
  some ((decide (x1 < x0.hi)), ()))
  else
  some (false, ()))
  else
  some (false, ()))
  else
  some (false, ()))
noncomputable def watershedref04_Has_ce : CE CT Tryz.prog where
  f := 51
  args := [.cod 5, .one (.str)]
  hs := []
  res := .val (.one (.bool))
  outs := []
  m := fun d dh => watershedref04_Has d.1 d.2.1
  ok := ce_ok mixedP Tryz.func51 (by kernel_rfl) (orcOf_ok watershedref04_Has_tb) (dr := watershedref04_Has_dr) (lps := lpsOf watershedref04_Has_lt) (lps_fn (no_loop (by kernel_rfl))) (fun d dh => by kernel_rfl)

def watershedkit_LentLines_dr : Nat → Nat → DrA
  | _, _ => ⟨[], [], [], [], [], false, []⟩
noncomputable def watershedkit_LentLines_tb : List (CE CT Tryz.prog) := [watershedkit_markRow_ce]
noncomputable def watershedkit_LentLines_l1 (a : ((List (DRow)) × (Nat × Nat × Nat) × (Int) × Unit) × ((List (DRow)) × Unit)) : Option ((((List (DRow)) × (Nat × Nat × Nat) × (Int) × Unit) × ((List (DRow)) × Unit)) ⊕ ((((List (DRow)) × (Nat × Nat × Nat) × Unit) × ((List (DRow)) × Unit)))) :=
  (bif (decide ((a.1.2.2.1 : Int) < 12)) then
  (watershedkit_markRow 1 a.1.2.2.1).bind fun r1 =>
  (if (a.1.2.1.2.1 + ([r1.1] : List (DRow)).length) ≤ 140737488355328 ∧ (a.1.2.1.2.1 + ([r1.1] : List (DRow)).length) * 32 ≤ 140737488355328 ∧ a.1.2.1.1 + a.1.2.1.2.1 ≤ a.2.1.length then
  (if (a.1.2.1.2.1 + ([r1.1] : List (DRow)).length) ≤ a.1.2.1.2.2 then
  let y2 : List (DRow) := (a.2.1.take (a.1.2.1.1 + a.1.2.1.2.1) ++ ([r1.1] : List (DRow)) ++ a.2.1.drop (a.1.2.1.1 + a.1.2.1.2.1 + ([r1.1] : List (DRow)).length))
  some (.inl ((a.1.1, (a.1.2.1.1, (a.1.2.1.2.1 + ([r1.1] : List (DRow)).length), a.1.2.1.2.2), (IntKind.i64.wrap (a.1.2.2.1 + 1)), ()), (y2, ())))
  else none)
  else none)
  else
  some (.inr ((a.1.1, (a.1.2.1.1, a.1.2.1.2.1, a.1.2.1.2.2), ()), (a.2.1, ()))))
noncomputable def watershedkit_LentLines_e1 : LE CT Tryz.prog := ⟨4, [0, 3, 4], [.one (.sl 3), .one (.as 3 0), .one (.int .i64)], [.arr 48 3 true], [⟨.exit 0, [0, 3], [.one (.sl 3), .one (.as 3 0)], [.arr 48 3 true]⟩], watershedkit_LentLines_l1⟩
noncomputable def watershedkit_LentLines_lt : List (LE CT Tryz.prog) := [watershedkit_LentLines_e1]
theorem watershedkit_LentLines_e1_ok : LeOk watershedkit_LentLines_e1 (nthL (bodyOf Tryz.f29) 0) := fun A env h k z hk => le_ok (E := watershedkit_LentLines_e1) (orcOf_ok watershedkit_LentLines_tb) (dr := watershedkit_LentLines_dr) (lps := lpsOf watershedkit_LentLines_lt) (no_loop (by kernel_rfl)) (fun a => by kernel_rfl) env h k z hk
noncomputable def watershedkit_LentLines (x0 : List (DRow)) : Option ((Nat × Nat × Nat) × ((List (DRow)) × Unit)) :=
  (if 0 ≤ (0 : Int) ∧ (0 : Int) ≤ (IntKind.i64.wrap ((x0.length : Int) + 12)) ∧ ((IntKind.i64.wrap ((x0.length : Int) + 12)) : Int) ≤ 140737488355328 ∧ ((32 : Nat) : Int) * (IntKind.i64.wrap ((x0.length : Int) + 12)) ≤ 140737488355328 then
  let y1 : List (DRow) := (List.replicate ((IntKind.i64.wrap ((x0.length : Int) + 12)) : Int).toNat ((⟨([] : List UInt8), ([] : List UInt8)⟩ : DRow) : DRow))
  (if ((0 : Int).toNat + x0.length) ≤ 140737488355328 ∧ ((0 : Int).toNat + x0.length) * 32 ≤ 140737488355328 ∧ 0 + (0 : Int).toNat ≤ y1.length then
  (if ((0 : Int).toNat + x0.length) ≤ ((IntKind.i64.wrap ((x0.length : Int) + 12)) : Int).toNat then
  let y2 : List (DRow) := (y1.take (0 + (0 : Int).toNat) ++ x0 ++ y1.drop (0 + (0 : Int).toNat + x0.length))
  (loopM watershedkit_LentLines_l1 ((x0, (0, ((0 : Int).toNat + x0.length), ((IntKind.i64.wrap ((x0.length : Int) + 12)) : Int).toNat), 0, ()), (y2, ()))).bind fun b3 =>
  (if 0 ≤ ((0 : Int) : Int) ∧ ((0 : Int) : Int) ≤ ((b3.1.1.length : Int) : Int) ∧ ((b3.1.1.length : Int) : Int) ≤ ((b3.1.2.1.2.2 : Nat) : Int) ∧ ((b3.1.1.length : Int) : Int) ≤ 140737488355328 then
  some (((b3.1.2.1.1 + (0 : Int).toNat), (((b3.1.1.length : Int) : Int).toNat - (0 : Int).toNat), (b3.1.2.1.2.2 - (0 : Int).toNat)), (b3.2.1, ()))
  else none)
  else none)
  else none)
  else none)
noncomputable def watershedkit_LentLines_ce : CE CT Tryz.prog where
  f := 29
  args := [.one (.sl 3)]
  hs := []
  res := .val (.one (.as 3 0))
  outs := [.arr 48 3 false]
  m := fun d dh => watershedkit_LentLines d.1
  ok := ce_ok mixedP Tryz.func29 (by kernel_rfl) (orcOf_ok watershedkit_LentLines_tb) (dr := watershedkit_LentLines_dr) (lps := lpsOf watershedkit_LentLines_lt) (lps_fn (lps_of (n := 1) (by kernel_rfl) fun i hi => match i, hi with | 0, _ => lp_ok (E := watershedkit_LentLines_e1) (by kernel_rfl) watershedkit_LentLines_e1_ok)) (fun d dh => by kernel_rfl)

noncomputable def watershedkit_LentLines_x (x0 : List (DRow)) : Option ((List (DRow) × List (DRow)) × Unit) :=
  (watershedkit_LentLines x0).bind fun r => if r.1.1 = 0 ∧ r.1.2.1 ≤ r.2.1.length ∧ r.2.1.length ≤ 140737488355328 then some ((r.2.1.take r.1.2.1, r.2.1.drop r.1.2.1), ()) else none
noncomputable def watershedkit_LentLines_x_ce : CE CT Tryz.prog where
  f := 29
  args := [.one (.sl 3)]
  hs := []
  res := .val (.one (.slx 3))
  outs := []
  m := fun d dh => watershedkit_LentLines_x d.1
  ok := fun d dh r hr => by
    unfold watershedkit_LentLines_x at hr
    obtain ⟨⟨⟨lo, n, c⟩, xs, u⟩, h1, h2⟩ := bind_some' hr
    dsimp only at h2
    split at h2
    · rename_i hc
      injection h2 with h2
      subst h2
      obtain ⟨rfl, hc2, hc3⟩ := hc
      exact Tr.freezeX hc2 hc3 (watershedkit_LentLines_ce.ok d dh _ h1)
    · cases h2

def watershedref15_Right_dr : Nat → Nat → DrA
  | _, _ => ⟨[], [], [], [], [], false, []⟩
noncomputable def watershedref15_Right_tb : List (CE CT Tryz.prog) := [watershedref04_Key_ce]
noncomputable def watershedref15_Right_lt : List (LE CT Tryz.prog) := []
noncomputable def watershedref15_Right (x0 : DRow) : Option ((Bool) × (Unit)) :=
  (watershedref04_Key x0.key).bind fun r1 =>
  (bif r1.1 then
  some ((decide (((x0.value.length : Int) : Int) ≤ 20)), ())
  else
  some (false, ()))
noncomputable def watershedref15_Right_ce : CE CT Tryz.prog where
  f := 47
  args := [.cod 3]
  hs := []
  res := .val (.one (.bool))
  outs := []
  m := fun d dh => watershedref15_Right d.1
  ok := ce_ok mixedP Tryz.func47 (by kernel_rfl) (orcOf_ok watershedref15_Right_tb) (dr := watershedref15_Right_dr) (lps := lpsOf watershedref15_Right_lt) (lps_fn (no_loop (by kernel_rfl))) (fun d dh => by kernel_rfl)

def watershedref15_put_dr : Nat → Nat → DrA
  | 2, _ => ⟨(List.range 9 ++ [10, 9, 11, 12, 13]), [[], [], [1], [0, 1, 2], [0, 1, 2, 3], (List.range 5), (List.range 5), (List.range 7), (List.range 8), (List.range 9), (List.range 5), (List.range 5 ++ [10]), (List.range 12), (List.range 13)], [], [], [], false, []⟩
  | 4, _ => ⟨(List.range 9 ++ [10, 9, 11, 12, 13]), [[], [], [1], [0, 1, 2], [0, 1, 2, 3], (List.range 5), (List.range 5), (List.range 7), (List.range 8), (List.range 9), (List.range 5), (List.range 5 ++ [10]), (List.range 12), (List.range 13)], [], [], [], false, []⟩
  | 5, _ => ⟨[], [], [], [], [], true, []⟩
  | 8, _ => ⟨[], [], [], [], [], true, []⟩
  | 9, _ => ⟨[0, 4, 5, 6, 1, 2, 3, 7, 8], [[], [], [1], [0, 1, 2], [], [], [4, 5], (List.range 7), (List.range 8)], [], [], [], false, []⟩
  | _, _ => ⟨[], [], [], [], [], false, []⟩
noncomputable def watershedref15_put_tb : List (CE CT Tryz.prog) := []
noncomputable def watershedref15_put_l1 (a : ((List (DRow)) × (Unit) × (Int) × Unit) × ((DRow) × Unit)) : Option ((((List (DRow)) × (Unit) × (Int) × Unit) × ((DRow) × Unit)) ⊕ ((((List (DRow)) × (Unit) × (Int) × Unit) × ((DRow) × Unit)))) :=
  (bif (decide ((a.1.2.2.1 : Int) < (a.1.1.length : Int))) then
  (getI a.1.1 a.1.2.2.1).bind fun e1 =>
  (bif (decide (e1.key < a.2.1.key)) then
  some (.inl ((a.1.1, (), (IntKind.i64.wrap (a.1.2.2.1 + 1)), ()), (a.2.1, ())))
  else
  some (.inr ((a.1.1, (), a.1.2.2.1, ()), (a.2.1, ()))))
  else
  some (.inr ((a.1.1, (), a.1.2.2.1, ()), (a.2.1, ()))))
noncomputable def watershedref15_put_e1 : LE CT Tryz.prog := ⟨2, [0, 3, 5], [.one (.sl 3), .one (.ptr 0 0), .one (.int .i64)], [.cobj 48 3], [⟨.exit 0, [0, 3, 5], [.one (.sl 3), .one (.ptr 0 0), .one (.int .i64)], [.cobj 48 3]⟩], watershedref15_put_l1⟩
noncomputable def watershedref15_put_lt : List (LE CT Tryz.prog) := [watershedref15_put_e1]
theorem watershedref15_put_e1_ok : LeOk watershedref15_put_e1 (nthL (bodyOf Tryz.f48) 0) := fun A env h k z hk => le_ok (E := watershedref15_put_e1) (orcOf_ok watershedref15_put_tb) (dr := watershedref15_put_dr) (lps := lpsOf watershedref15_put_lt) (no_loop (by kernel_rfl)) (fun a => by kernel_rfl) env h k z hk
noncomputable def watershedref15_put (x0 : List (DRow)) (x1 : DRow) : Option ((Nat) × ((List (DRow)) × Unit)) :=
  (loopM watershedref15_put_l1 ((x0, (), 0, ()), (x1, ()))).bind fun b1 =>
  (bif (decide ((b1.1.2.2.1 : Int) < (b1.1.1.length : Int))) then
  (getI b1.1.1 b1.1.2.2.1).bind fun e2 =>
  (bif (decide (e2.key = b1.2.1.key)) then
  (if (0 + b1.1.1.length) ≤ 140737488355328 ∧ (0 + b1.1.1.length) * 32 ≤ 140737488355328 ∧ 0 + 0 ≤ ([] : List (DRow)).length then
  (if (0 + b1.1.1.length) ≤ 0 then
  let y3 : List (DRow) := (([] : List (DRow)).take (0 + 0) ++ b1.1.1 ++ ([] : List (DRow)).drop (0 + 0 + b1.1.1.length))
  (if 0 ≤ (b1.1.2.2.1 : Int) ∧ (b1.1.2.2.1 : Int) < (((0 + b1.1.1.length) : Nat) : Int) then
  (y3[(0 + (b1.1.2.2.1 : Int).toNat)]?).bind fun e4 =>
  some ((0 + b1.1.1.length), ((y3.set (0 + (b1.1.2.2.1 : Int).toNat) b1.2.1), ()))
  else none)
  else
  (if 0 ≤ (b1.1.2.2.1 : Int) ∧ (b1.1.2.2.1 : Int) < (((0 + b1.1.1.length) : Nat) : Int) then
  (((([] : List (DRow)).drop 0).take 0 ++ b1.1.1)[(0 + (b1.1.2.2.1 : Int).toNat)]?).bind fun e5 =>
  let y6 : List (DRow) := (((([] : List (DRow)).drop 0).take 0 ++ b1.1.1).set (0 + (b1.1.2.2.1 : Int).toNat) b1.2.1)
  some ((0 + b1.1.1.length), (y6, ()))
  else none))
  else none)
  else
  (if 0 ≤ ((0 : Int) : Int) ∧ ((0 : Int) : Int) ≤ b1.1.2.2.1 ∧ b1.1.2.2.1 ≤ (b1.1.1.length : Int) then
  let y7 : List (DRow) := ((b1.1.1.drop ((0 : Int) : Int).toNat).take ((b1.1.2.2.1 : Int).toNat - ((0 : Int) : Int).toNat))
  (if (0 + y7.length) ≤ 140737488355328 ∧ (0 + y7.length) * 32 ≤ 140737488355328 ∧ 0 + 0 ≤ ([] : List (DRow)).length then
  (if (0 + y7.length) ≤ 0 then
  let y8 : List (DRow) := (([] : List (DRow)).take (0 + 0) ++ y7 ++ ([] : List (DRow)).drop (0 + 0 + y7.length))
  (if 0 ≤ (b1.1.2.2.1 : Int) ∧ (b1.1.2.2.1 : Int) ≤ (b1.1.1.length : Int) ∧ (b1.1.1.length : Int) ≤ (b1.1.1.length : Int) then
  let y9 : List (DRow) := ((b1.1.1.drop (b1.1.2.2.1 : Int).toNat).take (((b1.1.1.length : Int) : Int).toNat - (b1.1.2.2.1 : Int).toNat))
  (if ((0 + y7.length) + ([b1.2.1] : List (DRow)).length) ≤ 140737488355328 ∧ ((0 + y7.length) + ([b1.2.1] : List (DRow)).length) * 32 ≤ 140737488355328 ∧ 0 + (0 + y7.length) ≤ y8.length then
  (if ((0 + y7.length) + ([b1.2.1] : List (DRow)).length) ≤ 0 then
  let y10 : List (DRow) := (y8.take (0 + (0 + y7.length)) ++ ([b1.2.1] : List (DRow)) ++ y8.drop (0 + (0 + y7.length) + ([b1.2.1] : List (DRow)).length))
  (if (((0 + y7.length) + ([b1.2.1] : List (DRow)).length) + y9.length) ≤ 140737488355328 ∧ (((0 + y7.length) + ([b1.2.1] : List (DRow)).length) + y9.length) * 32 ≤ 140737488355328 ∧ 0 + ((0 + y7.length) + ([b1.2.1] : List (DRow)).length) ≤ y10.length then
  (if (((0 + y7.length) + ([b1.2.1] : List (DRow)).length) + y9.length) ≤ 0 then
  let y11 : List (DRow) := (y10.take (0 + ((0 + y7.length) + ([b1.2.1] : List (DRow)).length)) ++ y9 ++ y10.drop (0 + ((0 + y7.length) + ([b1.2.1] : List (DRow)).length) + y9.length))
  some ((((0 + y7.length) + ([b1.2.1] : List (DRow)).length) + y9.length), (y11, ()))
  else
  let y12 : List (DRow) := ((y10.drop 0).take ((0 + y7.length) + ([b1.2.1] : List (DRow)).length) ++ y9)
  some ((((0 + y7.length) + ([b1.2.1] : List (DRow)).length) + y9.length), (y12, ())))
  else none)
  else
  (if (((0 + y7.length) + ([b1.2.1] : List (DRow)).length) + y9.length) ≤ 140737488355328 ∧ (((0 + y7.length) + ([b1.2.1] : List (DRow)).length) + y9.length) * 32 ≤ 140737488355328 ∧ 0 + ((0 + y7.length) + ([b1.2.1] : List (DRow)).length) ≤ ((y8.drop 0).take (0 + y7.length) ++ ([b1.2.1] : List (DRow))).length then
  let y13 : List (DRow) := (((y8.drop 0).take (0 + y7.length) ++ ([b1.2.1] : List (DRow))).take ((0 + y7.length) + ([b1.2.1] : List (DRow)).length) ++ y9)
  some ((((0 + y7.length) + ([b1.2.1] : List (DRow)).length) + y9.length), (y13, ()))
  else none))
  else none)
  else none)
  else
  (if 0 ≤ (b1.1.2.2.1 : Int) ∧ (b1.1.2.2.1 : Int) ≤ (b1.1.1.length : Int) ∧ (b1.1.1.length : Int) ≤ (b1.1.1.length : Int) then
  let y14 : List (DRow) := ((b1.1.1.drop (b1.1.2.2.1 : Int).toNat).take (((b1.1.1.length : Int) : Int).toNat - (b1.1.2.2.1 : Int).toNat))
  (if ((0 + y7.length) + ([b1.2.1] : List (DRow)).length) ≤ 140737488355328 ∧ ((0 + y7.length) + ([b1.2.1] : List (DRow)).length) * 32 ≤ 140737488355328 ∧ 0 + (0 + y7.length) ≤ ((([] : List (DRow)).drop 0).take 0 ++ y7).length then
  let y15 : List (DRow) := (((([] : List (DRow)).drop 0).take 0 ++ y7).take (0 + y7.length) ++ ([b1.2.1] : List (DRow)))
  (if (((0 + y7.length) + ([b1.2.1] : List (DRow)).length) + y14.length) ≤ 140737488355328 ∧ (((0 + y7.length) + ([b1.2.1] : List (DRow)).length) + y14.length) * 32 ≤ 140737488355328 ∧ 0 + ((0 + y7.length) + ([b1.2.1] : List (DRow)).length) ≤ y15.length then
  some ((((0 + y7.length) + ([b1.2.1] : List (DRow)).length) + y14.length), ((y15.take ((0 + y7.length) + ([b1.2.1] : List (DRow)).length) ++ y14), ()))
  else none)
  else none)
  else none))
  else none)
  else none))
  else
  (if 0 ≤ ((0 : Int) : Int) ∧ ((0 : Int) : Int) ≤ b1.1.2.2.1 ∧ b1.1.2.2.1 ≤ (b1.1.1.length : Int) then
  let y16 : List (DRow) := ((b1.1.1.drop ((0 : Int) : Int).toNat).take ((b1.1.2.2.1 : Int).toNat - ((0 : Int) : Int).toNat))
  (if (0 + y16.length) ≤ 140737488355328 ∧ (0 + y16.length) * 32 ≤ 140737488355328 ∧ 0 + 0 ≤ ([] : List (DRow)).length then
  (if (0 + y16.length) ≤ 0 then
  let y17 : List (DRow) := (([] : List (DRow)).take (0 + 0) ++ y16 ++ ([] : List (DRow)).drop (0 + 0 + y16.length))
  (if 0 ≤ (b1.1.2.2.1 : Int) ∧ (b1.1.2.2.1 : Int) ≤ (b1.1.1.length : Int) ∧ (b1.1.1.length : Int) ≤ (b1.1.1.length : Int) then
  let y18 : List (DRow) := ((b1.1.1.drop (b1.1.2.2.1 : Int).toNat).take (((b1.1.1.length : Int) : Int).toNat - (b1.1.2.2.1 : Int).toNat))
  (if ((0 + y16.length) + ([b1.2.1] : List (DRow)).length) ≤ 140737488355328 ∧ ((0 + y16.length) + ([b1.2.1] : List (DRow)).length) * 32 ≤ 140737488355328 ∧ 0 + (0 + y16.length) ≤ y17.length then
  (if ((0 + y16.length) + ([b1.2.1] : List (DRow)).length) ≤ 0 then
  let y19 : List (DRow) := (y17.take (0 + (0 + y16.length)) ++ ([b1.2.1] : List (DRow)) ++ y17.drop (0 + (0 + y16.length) + ([b1.2.1] : List (DRow)).length))
  (if (((0 + y16.length) + ([b1.2.1] : List (DRow)).length) + y18.length) ≤ 140737488355328 ∧ (((0 + y16.length) + ([b1.2.1] : List (DRow)).length) + y18.length) * 32 ≤ 140737488355328 ∧ 0 + ((0 + y16.length) + ([b1.2.1] : List (DRow)).length) ≤ y19.length then
  (if (((0 + y16.length) + ([b1.2.1] : List (DRow)).length) + y18.length) ≤ 0 then
  let y20 : List (DRow) := (y19.take (0 + ((0 + y16.length) + ([b1.2.1] : List (DRow)).length)) ++ y18 ++ y19.drop (0 + ((0 + y16.length) + ([b1.2.1] : List (DRow)).length) + y18.length))
  some ((((0 + y16.length) + ([b1.2.1] : List (DRow)).length) + y18.length), (y20, ()))
  else
  let y21 : List (DRow) := ((y19.drop 0).take ((0 + y16.length) + ([b1.2.1] : List (DRow)).length) ++ y18)
  some ((((0 + y16.length) + ([b1.2.1] : List (DRow)).length) + y18.length), (y21, ())))
  else none)
  else
  (if (((0 + y16.length) + ([b1.2.1] : List (DRow)).length) + y18.length) ≤ 140737488355328 ∧ (((0 + y16.length) + ([b1.2.1] : List (DRow)).length) + y18.length) * 32 ≤ 140737488355328 ∧ 0 + ((0 + y16.length) + ([b1.2.1] : List (DRow)).length) ≤ ((y17.drop 0).take (0 + y16.length) ++ ([b1.2.1] : List (DRow))).length then
  let y22 : List (DRow) := (((y17.drop 0).take (0 + y16.length) ++ ([b1.2.1] : List (DRow))).take ((0 + y16.length) + ([b1.2.1] : List (DRow)).length) ++ y18)
  some ((((0 + y16.length) + ([b1.2.1] : List (DRow)).length) + y18.length), (y22, ()))
  else none))
  else none)
  else none)
  else
  (if 0 ≤ (b1.1.2.2.1 : Int) ∧ (b1.1.2.2.1 : Int) ≤ (b1.1.1.length : Int) ∧ (b1.1.1.length : Int) ≤ (b1.1.1.length : Int) then
  let y23 : List (DRow) := ((b1.1.1.drop (b1.1.2.2.1 : Int).toNat).take (((b1.1.1.length : Int) : Int).toNat - (b1.1.2.2.1 : Int).toNat))
  (if ((0 + y16.length) + ([b1.2.1] : List (DRow)).length) ≤ 140737488355328 ∧ ((0 + y16.length) + ([b1.2.1] : List (DRow)).length) * 32 ≤ 140737488355328 ∧ 0 + (0 + y16.length) ≤ ((([] : List (DRow)).drop 0).take 0 ++ y16).length then
  let y24 : List (DRow) := (((([] : List (DRow)).drop 0).take 0 ++ y16).take (0 + y16.length) ++ ([b1.2.1] : List (DRow)))
  (if (((0 + y16.length) + ([b1.2.1] : List (DRow)).length) + y23.length) ≤ 140737488355328 ∧ (((0 + y16.length) + ([b1.2.1] : List (DRow)).length) + y23.length) * 32 ≤ 140737488355328 ∧ 0 + ((0 + y16.length) + ([b1.2.1] : List (DRow)).length) ≤ y24.length then
  some ((((0 + y16.length) + ([b1.2.1] : List (DRow)).length) + y23.length), ((y24.take ((0 + y16.length) + ([b1.2.1] : List (DRow)).length) ++ y23), ()))
  else none)
  else none)
  else none))
  else none)
  else none))
noncomputable def watershedref15_put_ce : CE CT Tryz.prog where
  f := 48
  args := [.one (.sl 3), .cod 3]
  hs := []
  res := .val (.one (.asz 3 0))
  outs := [.arr 48 3 false]
  m := fun d dh => watershedref15_put d.1 d.2.1
  ok := ce_ok mixedP Tryz.func48 (by kernel_rfl) (orcOf_ok watershedref15_put_tb) (dr := watershedref15_put_dr) (lps := lpsOf watershedref15_put_lt) (lps_fn (lps_of (n := 1) (by kernel_rfl) fun i hi => match i, hi with | 0, _ => lp_ok (E := watershedref15_put_e1) (by kernel_rfl) watershedref15_put_e1_ok)) (fun d dh => by kernel_rfl)

noncomputable def watershedref15_put_n (x0 : List (DRow)) (x1 : DRow) := (watershedref15_put x0 x1).bind fun r => if r.1 ≤ r.2.1.length then some (r.2.1.take r.1, ()) else none
noncomputable def watershedref15_put_n_ce : CE CT Tryz.prog where
  f := 48
  args := [.one (.sl 3), .cod 3]
  hs := []
  res := .val (.one (.sl 3))
  outs := []
  m := fun d dh => watershedref15_put_n d.1 d.2.1
  ok := fun d dh r hr => by
    unfold watershedref15_put_n at hr
    obtain ⟨⟨n, xs, u⟩, h1, h2⟩ := bind_some' hr
    dsimp only at h2
    split at h2
    · rename_i hc
      injection h2 with h2
      subst h2
      exact Tr.tellS hc (watershedref15_put_ce.ok d dh _ h1)
    · cases h2

def watershedkit_KeptLines_dr : Nat → Nat → DrA
  | 7, _ => ⟨(List.range 8 ++ [9, 10, 11, 8, 12, 13, 14, 15, 16, 17, 18, 19, 20, 21, 22, 23, 24, 26, 27, 28, 29, 25, 30, 31, 32, 33, 34]), [[], [], [1], [0, 1, 2], [0, 1, 2, 3], (List.range 5), (List.range 5), (List.range 7), (List.range 8), (List.range 5), (List.range 5), (List.range 5 ++ [9, 10]), (List.range 5 ++ [9, 10, 11]), (List.range 13), (List.range 14), (List.range 15), (List.range 16), (List.range 17), (List.range 17), (List.range 17 ++ [18]), (List.range 20), (List.range 21), (List.range 22), (List.range 22), (List.range 24), (List.range 25), (List.range 22), (List.range 22), (List.range 22 ++ [27]), (List.range 22 ++ [26, 27, 28]), (List.range 22 ++ [26, 27, 28, 29]), (List.range 31), (List.range 32), (List.range 33), (List.range 34)], [25], [30], [], false, []⟩
  | _, _ => ⟨[], [], [], [], [], false, []⟩
noncomputable def watershedkit_KeptLines_tb : List (CE CT Tryz.prog) := [watershedkit_markRow_ce]
noncomputable def watershedkit_KeptLines_l1 (a : ((List (DRow)) × (List (DRow)) × (Int) × Unit) × (Unit)) : Option ((((List (DRow)) × (List (DRow)) × (Int) × Unit) × (Unit)) ⊕ ((((Bool) × Unit) × (Unit)) ⊕ ((Unit) × (Unit)))) :=
  (bif (decide ((a.1.2.2.1 : Int) < (a.1.2.1.length : Int))) then
  (bif (decide ((a.1.2.2.1 : Int) < (a.1.1.length : Int))) then
  (getI a.1.2.1 a.1.2.2.1).bind fun e1 =>
  (getI a.1.1 a.1.2.2.1).bind fun e2 =>
  (bif (!(decide (e1.key = e2.key) && (decide (e1.value = e2.value) && true))) then
  some (.inr (.inl ((false, ()), ())))
  else
  (bif (decide (((a.1.1.length : Int) : Int) ≤ a.1.2.2.1)) then
  (getI a.1.2.1 a.1.2.2.1).bind fun e3 =>
  (watershedkit_markRow 1 (IntKind.i64.wrap (a.1.2.2.1 - (a.1.1.length : Int)))).bind fun r4 =>
  (bif (!(decide (e3.key = r4.1.key) && (decide (e3.value = r4.1.value) && true))) then
  some (.inr (.inl ((false, ()), ())))
  else
  some (.inl ((a.1.1, a.1.2.1, (IntKind.i64.wrap (a.1.2.2.1 + 1)), ()), ())))
  else
  some (.inl ((a.1.1, a.1.2.1, (IntKind.i64.wrap (a.1.2.2.1 + 1)), ()), ()))))
  else
  (bif (decide (((a.1.1.length : Int) : Int) ≤ a.1.2.2.1)) then
  (getI a.1.2.1 a.1.2.2.1).bind fun e5 =>
  (watershedkit_markRow 1 (IntKind.i64.wrap (a.1.2.2.1 - (a.1.1.length : Int)))).bind fun r6 =>
  (bif (!(decide (e5.key = r6.1.key) && (decide (e5.value = r6.1.value) && true))) then
  some (.inr (.inl ((false, ()), ())))
  else
  some (.inl ((a.1.1, a.1.2.1, (IntKind.i64.wrap (a.1.2.2.1 + 1)), ()), ())))
  else
  some (.inl ((a.1.1, a.1.2.1, (IntKind.i64.wrap (a.1.2.2.1 + 1)), ()), ()))))
  else
  some (.inr (.inr ((), ()))))
noncomputable def watershedkit_KeptLines_e1 : LE CT Tryz.prog := ⟨5, [1, 5, 6], [.one (.sl 3), .one (.sl 3), .one (.int .i64)], [], [⟨.ret, [4], [.one (.bool)], []⟩, ⟨.exit 0, [], [], []⟩], watershedkit_KeptLines_l1⟩
noncomputable def watershedkit_KeptLines_lt : List (LE CT Tryz.prog) := [watershedkit_KeptLines_e1]
theorem watershedkit_KeptLines_e1_ok : LeOk watershedkit_KeptLines_e1 (nthL (bodyOf Tryz.f30) 0) := fun A env h k z hk => le_ok (E := watershedkit_KeptLines_e1) (orcOf_ok watershedkit_KeptLines_tb) (dr := watershedkit_KeptLines_dr) (lps := lpsOf watershedkit_KeptLines_lt) (no_loop (by kernel_rfl)) (fun a => by kernel_rfl) env h k z hk
noncomputable def watershedkit_KeptLines (x0 : List (DRow) × List (DRow)) (x1 : List (DRow)) : Option ((Bool) × (Unit)) :=
  (bif (decide (((x0.1.length : Int) : Int) ≠ (x1.length : Int))) then
  some (false, ())
  else
  (if 0 ≤ ((0 : Int) : Int) ∧ ((0 : Int) : Int) ≤ (IntKind.i64.wrap ((x1.length : Int) + 12)) ∧ (IntKind.i64.wrap ((x1.length : Int) + 12)) ≤ ((x0.1 ++ x0.2).length : Int) then
  let y1 : List (DRow) := (((x0.1 ++ x0.2).drop ((0 : Int) : Int).toNat).take (((IntKind.i64.wrap ((x1.length : Int) + 12)) : Int).toNat - ((0 : Int) : Int).toNat))
  (loopM watershedkit_KeptLines_l1 ((x1, y1, 0, ()), ())).bind fun b2 =>
  (match b2 with
  | .inl b3 =>
  some (b3.1.1, ())
  | .inr b4 =>
  some (true, ()))
  else none))
noncomputable def watershedkit_KeptLines_ce : CE CT Tryz.prog where
  f := 30
  args := [.one (.slx 3), .one (.sl 3)]
  hs := []
  res := .val (.one (.bool))
  outs := []
  m := fun d dh => watershedkit_KeptLines d.1 d.2.1
  ok := ce_ok mixedP Tryz.func30 (by kernel_rfl) (orcOf_ok watershedkit_KeptLines_tb) (dr := watershedkit_KeptLines_dr) (lps := lpsOf watershedkit_KeptLines_lt) (lps_fn (lps_of (n := 1) (by kernel_rfl) fun i hi => match i, hi with | 0, _ => lp_ok (E := watershedkit_KeptLines_e1) (by kernel_rfl) watershedkit_KeptLines_e1_ok)) (fun d dh => by kernel_rfl)

def watershedlaw15_same_dr : Nat → Nat → DrA
  | 1, _ => ⟨[0, 2, 3, 4, 5, 6, 1, 7, 8, 9, 10, 12, 13, 14, 15, 11, 16, 17, 18], [[], [0], [], [2], [2, 3], [2, 3, 4], [2, 3, 4, 5], (List.range 7), (List.range 8), (List.range 9), (List.range 9), (List.range 11), (List.range 9), (List.range 9 ++ [12]), (List.range 9 ++ [12, 13]), (List.range 9 ++ [12, 13, 14]), (List.range 16), (List.range 17), (List.range 18)], [5, 15], [1, 11], [1], false, []⟩
  | _, _ => ⟨[], [], [], [], [], false, []⟩
noncomputable def watershedlaw15_same_tb : List (CE CT Tryz.prog) := [rows_Many_ce, rows_In_ce, watershedkit_SameLines_ce]
noncomputable def watershedlaw15_same_lt : List (LE CT Tryz.prog) := []
noncomputable def watershedlaw15_same (h0 : (Nat) × (Bool) × Unit) (h1 : DRows) (h2 : List (DRow)) : Option ((Bool) × (((Nat) × (Bool) × Unit) × (DRows) × (List (DRow)) × Unit)) :=
  (rows_Many (h0.1, h0.2.1, ()) h2).bind fun r1 =>
  (bif (decide ((r1.1 : Int) = (h1.l.length : Int))) then
  (rows_In (⟨([] : List UInt8), ([] : List UInt8)⟩ : DSpan) (r1.2.1.1, r1.2.1.2.1, ()) r1.2.2.1).bind fun r2 =>
  (watershedkit_SameLines r2.1 h1.l).bind fun r3 =>
  some (r3.1, ((r2.2.1.1, r2.2.1.2.1, ()), h1, r2.2.2.1, ()))
  else
  some (false, ((r1.2.1.1, r1.2.1.2.1, ()), h1, r1.2.2.1, ())))
noncomputable def watershedlaw15_same_ce : CE CT Tryz.prog where
  f := 12
  args := [.one (.ptr 0 0), .one (.ptr 1 0)]
  hs := [.obj 58 [.asz 3 2, .bool], .cobj 31 10, .arr 48 3 true]
  res := .val (.one (.bool))
  outs := [.obj 58 [.asz 3 2, .bool], .cobj 31 10, .arr 48 3 true]
  m := fun d dh => watershedlaw15_same dh.1 dh.2.1 dh.2.2.1
  ok := ce_ok mixedP Tryz.func12 (by kernel_rfl) (orcOf_ok watershedlaw15_same_tb) (dr := watershedlaw15_same_dr) (lps := lpsOf watershedlaw15_same_lt) (lps_fn (no_loop (by kernel_rfl))) (fun d dh => by kernel_rfl)

def watershedref15_In_2_dr : Nat → Nat → DrA
  | 5, _ => ⟨[1, 2, 3, 5, 0, 4, 6, 7, 8, 9], [[], [], [1], [1, 2], [1, 2, 3], [], [1, 2, 3, 4, 5], [1, 2, 3, 4, 5, 6], [1, 2, 3, 4, 5, 6, 7], (List.range 9)], [], [], [], false, []⟩
  | _, _ => ⟨[], [], [], [], [], false, []⟩
noncomputable def watershedref15_In_2_tb : List (CE CT Tryz.prog) := [watershedref04_Has_ce]
noncomputable def watershedref15_In_2_l1 (a : ((Unit) × (Unit) × (List (DRow)) × (Int) × Unit) × ((DRows) × (DSpan) × (Unit) × Unit)) : Option ((((Unit) × (Unit) × (List (DRow)) × (Int) × Unit) × ((DRows) × (DSpan) × (Unit) × Unit)) ⊕ ((((List (DRow)) × Unit) × ((DRows) × (DSpan) × (Unit) × (Unit) × Unit)))) :=
  (bif (decide ((a.1.2.2.2.1 : Int) < (a.2.1.l.length : Int))) then
  (getI a.2.1.l a.1.2.2.2.1).bind fun e1 =>
  (watershedref04_Has a.2.2.1 e1.key).bind fun r2 =>
  (bif r2.1 then
  (getI a.2.1.l a.1.2.2.2.1).bind fun e3 =>
  (if a.1.2.2.1.length + ([e3] : List (DRow)).length ≤ 140737488355328 ∧ (a.1.2.2.1.length + ([e3] : List (DRow)).length) * 32 ≤ 140737488355328 then
  some (.inl (((), (), (a.1.2.2.1 ++ ([e3] : List (DRow))), (IntKind.i64.wrap (a.1.2.2.2.1 + 1)), ()), (a.2.1, a.2.2.1, (), ())))
  else none)
  else
  some (.inl (((), (), a.1.2.2.1, (IntKind.i64.wrap (a.1.2.2.2.1 + 1)), ()), (a.2.1, a.2.2.1, (), ()))))
  else
  some (.inr ((a.1.2.2.1, ()), (a.2.1, a.2.2.1, (), (), ()))))
noncomputable def watershedref15_In_2_e1 : LE CT Tryz.prog := ⟨3, [0, 3, 5, 6], [.one (.ptr 0 0), .one (.ptr 1 0), .one (.own 3 2), .one (.int .i64)], [.cobj 31 10, .cobj 36 5, .row 48 2], [⟨.exit 0, [5], [.one (.own 3 3)], [.cobj 31 10, .cobj 36 5, .dead, .row 48 2]⟩], watershedref15_In_2_l1⟩
noncomputable def watershedref15_In_2_lt : List (LE CT Tryz.prog) := [watershedref15_In_2_e1]
theorem watershedref15_In_2_e1_ok : LeOk watershedref15_In_2_e1 (nthL (bodyOf Tryz.f27) 0) := fun A env h k z hk => le_ok (E := watershedref15_In_2_e1) (orcOf_ok watershedref15_In_2_tb) (dr := watershedref15_In_2_dr) (lps := lpsOf watershedref15_In_2_lt) (no_loop (by kernel_rfl)) (fun a => by kernel_rfl) env h k z hk
noncomputable def watershedref15_In_2 (x1 : DSpan) (h0 : DRows) : Option ((List (DRow)) × ((DRows) × (Unit) × Unit)) :=
  (loopM watershedref15_In_2_l1 (((), (), [], 0, ()), (h0, x1, (), ()))).bind fun b1 =>
  some (b1.1.1, (b1.2.1, (), ()))
noncomputable def watershedref15_In_2_ce : CE CT Tryz.prog where
  f := 27
  args := [.one (.ptr 0 0), .cod 5]
  hs := [.cobj 31 10]
  res := .val (.one (.own 3 1))
  outs := [.cobj 31 10, .row 48 2]
  m := fun d dh => watershedref15_In_2 d.2.1 dh.1
  ok := ce_ok mixedP Tryz.func27 (by kernel_rfl) (orcOf_ok watershedref15_In_2_tb) (dr := watershedref15_In_2_dr) (lps := lpsOf watershedref15_In_2_lt) (lps_fn (lps_of (n := 1) (by kernel_rfl) fun i hi => match i, hi with | 0, _ => lp_ok (E := watershedref15_In_2_e1) (by kernel_rfl) watershedref15_In_2_e1_ok)) (fun d dh => by kernel_rfl)

def watershedref15_Take_2_dr : Nat → Nat → DrA
  | 6, _ => ⟨[1, 2, 3, 5, 0, 4, 6, 7, 8, 9, 10], [[], [], [1], [1, 2], [1, 2, 3], [], [1, 2, 3, 4, 5], [1, 2, 3, 4, 5, 6], [1, 2, 3, 4, 5, 6, 7], (List.range 9), (List.range 10)], [], [], [], false, []⟩
  | _, _ => ⟨[], [], [], [], [], false, []⟩
noncomputable def watershedref15_Take_2_tb : List (CE CT Tryz.prog) := [watershedref15_In_2_ce, watershedref04_Has_ce]
noncomputable def watershedref15_Take_2_l1 (a : ((Unit) × (Unit) × (List (DRow)) × (List (DRow)) × (Int) × Unit) × ((DRows) × (DSpan) × (Unit) × (Unit) × Unit)) : Option ((((Unit) × (Unit) × (List (DRow)) × (List (DRow)) × (Int) × Unit) × ((DRows) × (DSpan) × (Unit) × (Unit) × Unit)) ⊕ ((((Unit) × (List (DRow)) × (List (DRow)) × Unit) × ((DRows) × (DSpan) × (Unit) × (Unit) × (Unit) × (Unit) × Unit)))) :=
  (bif (decide ((a.1.2.2.2.2.1 : Int) < (a.2.1.l.length : Int))) then
  (getI a.2.1.l a.1.2.2.2.2.1).bind fun e1 =>
  (watershedref04_Has a.2.2.1 e1.key).bind fun r2 =>
  (bif (!r2.1) then
  (getI a.2.1.l a.1.2.2.2.2.1).bind fun e3 =>
  (if a.1.2.2.2.1.length + ([e3] : List (DRow)).length ≤ 140737488355328 ∧ (a.1.2.2.2.1.length + ([e3] : List (DRow)).length) * 32 ≤ 140737488355328 then
  some (.inl (((), (), a.1.2.2.1, (a.1.2.2.2.1 ++ ([e3] : List (DRow))), (IntKind.i64.wrap (a.1.2.2.2.2.1 + 1)), ()), (a.2.1, a.2.2.1, (), (), ())))
  else none)
  else
  some (.inl (((), (), a.1.2.2.1, a.1.2.2.2.1, (IntKind.i64.wrap (a.1.2.2.2.2.1 + 1)), ()), (a.2.1, a.2.2.1, (), (), ()))))
  else
  some (.inr (((), a.1.2.2.1, a.1.2.2.2.1, ()), (a.2.1, a.2.2.1, (), (), (), (), ()))))
noncomputable def watershedref15_Take_2_e1 : LE CT Tryz.prog := ⟨4, [0, 3, 5, 6, 7], [.one (.ptr 0 0), .one (.ptr 1 0), .one (.own 3 2), .one (.own 3 3), .one (.int .i64)], [.cobj 31 10, .cobj 36 5, .row 48 2, .row 48 2], [⟨.exit 0, [0, 5, 6], [.one (.ptr 0 0), .one (.own 3 4), .one (.own 3 5)], [.cobj 31 10, .cobj 36 5, .dead, .dead, .row 48 2, .row 48 2]⟩], watershedref15_Take_2_l1⟩
noncomputable def watershedref15_Take_2_lt : List (LE CT Tryz.prog) := [watershedref15_Take_2_e1]
theorem watershedref15_Take_2_e1_ok : LeOk watershedref15_Take_2_e1 (nthL (bodyOf Tryz.f28) 0) := fun A env h k z hk => le_ok (E := watershedref15_Take_2_e1) (orcOf_ok watershedref15_Take_2_tb) (dr := watershedref15_Take_2_dr) (lps := lpsOf watershedref15_Take_2_lt) (no_loop (by kernel_rfl)) (fun a => by kernel_rfl) env h k z hk
noncomputable def watershedref15_Take_2 (x1 : DSpan) (h0 : DRows) : Option ((List (DRow)) × (((List (DRow)) × Unit) × (Unit) × (Unit) × Unit)) :=
  (watershedref15_In_2 x1 h0).bind fun r1 =>
  (loopM watershedref15_Take_2_l1 (((), (), r1.1, [], 0, ()), (r1.2.1, x1, (), (), ()))).bind fun b2 =>
  some (b2.1.2.1, ((b2.1.2.2.1, ()), (), (), ()))
noncomputable def watershedref15_Take_2_ce : CE CT Tryz.prog where
  f := 28
  args := [.one (.ptr 0 0), .cod 5]
  hs := [.cobj 31 10]
  res := .val (.one (.own 3 1))
  outs := [.obj 31 [.own 3 2], .row 48 2, .row 48 2]
  m := fun d dh => watershedref15_Take_2 d.2.1 dh.1
  ok := ce_ok mixedP Tryz.func28 (by kernel_rfl) (orcOf_ok watershedref15_Take_2_tb) (dr := watershedref15_Take_2_dr) (lps := lpsOf watershedref15_Take_2_lt) (lps_fn (lps_of (n := 1) (by kernel_rfl) fun i hi => match i, hi with | 0, _ => lp_ok (E := watershedref15_Take_2_e1) (by kernel_rfl) watershedref15_Take_2_e1_ok)) (fun d dh => by kernel_rfl)

def watershedref15_Put_2_dr : Nat → Nat → DrA
  | _, _ => ⟨[], [], [], [], [], false, []⟩
noncomputable def watershedref15_Put_2_tb : List (CE CT Tryz.prog) := [watershedref15_Right_ce, watershedref15_put_n_ce]
noncomputable def watershedref15_Put_2_l1 (a : ((Unit) × (List (DRow)) × (List (DRow)) × (Int) × Unit) × ((DRows) × Unit)) : Option ((((Unit) × (List (DRow)) × (List (DRow)) × (Int) × Unit) × ((DRows) × Unit)) ⊕ ((((Int) × Unit) × ((DRows) × Unit)) ⊕ (((Unit) × (List (DRow)) × (List (DRow)) × Unit) × ((DRows) × Unit)))) :=
  (bif (decide ((a.1.2.2.2.1 : Int) < (a.1.2.1.length : Int))) then
  (getI a.1.2.1 a.1.2.2.2.1).bind fun e1 =>
  (watershedref15_Right e1).bind fun r2 =>
  (bif (!r2.1) then
  some (.inr (.inl ((2, ()), (a.2.1, ()))))
  else
  some (.inl (((), a.1.2.1, a.1.2.2.1, (IntKind.i64.wrap (a.1.2.2.2.1 + 1)), ()), (a.2.1, ()))))
  else
  some (.inr (.inr (((), a.1.2.1, a.1.2.2.1, ()), (a.2.1, ())))))
noncomputable def watershedref15_Put_2_e1 : LE CT Tryz.prog := ⟨3, [0, 1, 5, 6], [.one (.ptr 0 0), .one (.sl 3), .one (.sl 3), .one (.int .i64)], [.cobj 31 10], [⟨.ret, [4], [.one (.int .i64)], [.cobj 31 10]⟩, ⟨.exit 0, [0, 1, 5], [.one (.ptr 0 0), .one (.sl 3), .one (.sl 3)], [.cobj 31 10]⟩], watershedref15_Put_2_l1⟩
noncomputable def watershedref15_Put_2_l2 (a : ((Unit) × (List (DRow)) × (List (DRow)) × (Int) × Unit) × ((DRows) × Unit)) : Option ((((Unit) × (List (DRow)) × (List (DRow)) × (Int) × Unit) × ((DRows) × Unit)) ⊕ ((((Unit) × (List (DRow)) × Unit) × ((DRows) × Unit)))) :=
  (bif (decide ((a.1.2.2.2.1 : Int) < (a.1.2.1.length : Int))) then
  (getI a.1.2.1 a.1.2.2.2.1).bind fun e1 =>
  (watershedref15_put_n a.1.2.2.1 e1).bind fun r2 =>
  some (.inl (((), a.1.2.1, r2.1, (IntKind.i64.wrap (a.1.2.2.2.1 + 1)), ()), (a.2.1, ())))
  else
  some (.inr (((), a.1.2.2.1, ()), (a.2.1, ()))))
noncomputable def watershedref15_Put_2_e2 : LE CT Tryz.prog := ⟨8, [0, 1, 5, 7], [.one (.ptr 0 0), .one (.sl 3), .one (.sl 3), .one (.int .i64)], [.cobj 31 10], [⟨.exit 2, [0, 5], [.one (.ptr 0 0), .one (.sl 3)], [.cobj 31 10]⟩], watershedref15_Put_2_l2⟩
noncomputable def watershedref15_Put_2_lt : List (LE CT Tryz.prog) := [watershedref15_Put_2_e1, watershedref15_Put_2_e2]
theorem watershedref15_Put_2_e1_ok : LeOk watershedref15_Put_2_e1 (nthL (bodyOf Tryz.f19) 0) := fun A env h k z hk => le_ok (E := watershedref15_Put_2_e1) (orcOf_ok watershedref15_Put_2_tb) (dr := watershedref15_Put_2_dr) (lps := lpsOf watershedref15_Put_2_lt) (no_loop (by kernel_rfl)) (fun a => by kernel_rfl) env h k z hk
theorem watershedref15_Put_2_e2_ok : LeOk watershedref15_Put_2_e2 (nthL (bodyOf Tryz.f19) 1) := fun A env h k z hk => le_ok (E := watershedref15_Put_2_e2) (orcOf_ok watershedref15_Put_2_tb) (dr := watershedref15_Put_2_dr) (lps := lpsOf watershedref15_Put_2_lt) (no_loop (by kernel_rfl)) (fun a => by kernel_rfl) env h k z hk
noncomputable def watershedref15_Put_2 (x1 : List (DRow)) (h0 : DRows) : Option ((Int) × ((DRows) × Unit)) :=
  (loopM watershedref15_Put_2_l1 (((), x1, h0.l, 0, ()), (h0, ()))).bind fun b1 =>
  (match b1 with
  | .inl b2 =>
  some (b2.1.1, (b2.2.1, ()))
  | .inr b3 =>
  (loopM watershedref15_Put_2_l2 (((), b3.1.2.1, b3.1.2.2.1, 0, ()), (b3.2.1, ()))).bind fun b4 =>
  (bif (decide ((400 : Int) < (b4.1.2.1.length : Int))) then
  some (8, (b4.2.1, ()))
  else
  some (0, ((⟨b4.1.2.1⟩ : DRows), ()))))
noncomputable def watershedref15_Put_2_ce : CE CT Tryz.prog where
  f := 19
  args := [.one (.ptr 0 0), .one (.sl 3)]
  hs := [.cobj 31 10]
  res := .val (.one (.int .i64))
  outs := [.cobj 31 10]
  m := fun d dh => watershedref15_Put_2 d.2.1 dh.1
  ok := ce_ok mixedP Tryz.func19 (by kernel_rfl) (orcOf_ok watershedref15_Put_2_tb) (dr := watershedref15_Put_2_dr) (lps := lpsOf watershedref15_Put_2_lt) (lps_fn (lps_of (n := 2) (by kernel_rfl) fun i hi => match i, hi with | 0, _ => lp_ok (E := watershedref15_Put_2_e1) (by kernel_rfl) watershedref15_Put_2_e1_ok | 1, _ => lp_ok (E := watershedref15_Put_2_e2) (by kernel_rfl) watershedref15_Put_2_e2_ok)) (fun d dh => by kernel_rfl)

def watershedlaw15_act_2_dr : Nat → Nat → DrA
  | 3, _ => ⟨[0, 1, 4, 5, 2, 6, 3, 7, 8, 9], [[], [], [1], [0, 1, 2], [], [], [5], (List.range 7), (List.range 8), (List.range 9)], [6], [3], [3], false, []⟩
  | 5, _ => ⟨[0, 1, 4, 5, 2, 6, 3, 7, 8, 9], [[], [], [1], [0, 1, 2], [], [], [5], (List.range 7), (List.range 8), (List.range 9)], [6], [3], [3], false, []⟩
  | 7, _ => ⟨[0, 1, 3, 4, 5, 2, 6, 7, 8, 9, 10, 11, 12, 13, 14], [[], [], [0, 1], [], [], [4], (List.range 6), (List.range 7), (List.range 8), (List.range 9), (List.range 9), (List.range 9 ++ [10]), (List.range 12), (List.range 13), (List.range 14)], [5], [2], [3], false, []⟩
  | _, _ => ⟨[], [], [], [], [], false, []⟩
noncomputable def watershedlaw15_act_2_tb : List (CE CT Tryz.prog) := [watershedkit_Pick_ce, rows_In_ce, watershedref15_In_2_ce, watershedkit_SameLines_ce, rows_Take_ce, watershedref15_Take_2_ce, watershedkit_LentLines_x_ce, rows_Put_ce, watershedref15_Put_2_ce, watershedkit_KeptLines_ce]
noncomputable def watershedlaw15_act_2_lt : List (LE CT Tryz.prog) := []
noncomputable def watershedlaw15_act_2 (x2 : DDeed) (h0 : (Nat) × (Bool) × Unit) (h1 : DRows) (h2 : List (DRow)) : Option ((Bool) × (((Nat) × (Bool) × Unit) × (DRows) × (Unit) × (List (DRow)) × Unit)) :=
  (watershedkit_Pick x2.kind 5).bind fun r1 =>
  (bif (decide ((r1.1 : Int) = 3)) then
  (rows_In x2.span (h0.1, h0.2.1, ()) h2).bind fun r2 =>
  (watershedref15_In_2 x2.span h1).bind fun r3 =>
  (watershedkit_SameLines r2.1 r3.1).bind fun r4 =>
  some (r4.1, ((r2.2.1.1, r2.2.1.2.1, ()), r3.2.1, (), r2.2.2.1, ()))
  else
  (bif (decide ((r1.1 : Int) = 4)) then
  (rows_Take x2.span (h0.1, h0.2.1, ()) h2).bind fun r5 =>
  (watershedref15_Take_2 x2.span h1).bind fun r6 =>
  (watershedkit_SameLines r5.1 r6.1).bind fun r7 =>
  some (r7.1, ((r5.2.1.1, r5.2.1.2.1, ()), (⟨r6.2.1.1⟩ : DRows), (), r5.2.2.2.2.1, ()))
  else
  (watershedkit_LentLines_x x2.rows).bind fun r8 =>
  (rows_Put r8.1.1 (h0.1, h0.2.1, ()) h2).bind fun r9 =>
  (watershedref15_Put_2 x2.rows h1).bind fun r10 =>
  (bif (decide ((r9.1 : Int) = r10.1)) then
  (watershedkit_KeptLines (r8.1.1, r8.1.2) x2.rows).bind fun r11 =>
  some (r11.1, ((r9.2.1.1, r9.2.1.2.1, ()), r10.2.1, (), r9.2.2.2.1, ()))
  else
  some (false, ((r9.2.1.1, r9.2.1.2.1, ()), r10.2.1, (), r9.2.2.2.1, ())))))
noncomputable def watershedlaw15_act_2_ce : CE CT Tryz.prog where
  f := 11
  args := [.one (.ptr 0 0), .one (.ptr 1 0), .cod 6]
  hs := [.obj 58 [.asz 3 2, .bool], .cobj 31 10, .arr 48 3 false]
  res := .val (.one (.bool))
  outs := [.obj 58 [.asz 3 3, .bool], .cobj 31 10, .dead, .arr 48 3 false]
  m := fun d dh => watershedlaw15_act_2 d.2.2.1 dh.1 dh.2.1 dh.2.2.1
  ok := ce_ok mixedP Tryz.func11 (by kernel_rfl) (orcOf_ok watershedlaw15_act_2_tb) (dr := watershedlaw15_act_2_dr) (lps := lpsOf watershedlaw15_act_2_lt) (lps_fn (no_loop (by kernel_rfl))) (fun d dh => by kernel_rfl)

def rows_Get_dr : Nat → Nat → DrA
  | _, _ => ⟨[], [], [], [], [], false, []⟩
noncomputable def rows_Get_tb : List (CE CT Tryz.prog) := [rows_known_ce, rows_at_2_ce]
noncomputable def rows_Get_lt : List (LE CT Tryz.prog) := []
noncomputable def rows_Get (x1 : List UInt8) (h0 : (Nat) × (Bool) × Unit) (h1 : List (DRow)) : Option (((List UInt8) × (Bool) × Unit) × (((Nat) × (Bool) × Unit) × (List (DRow)) × Unit)) :=
  (rows_known (h0.1, h0.2.1, ()) h1).bind fun r1 =>
  (bif (!r1.1) then
  some ((([] : List UInt8), false, ()), ((r1.2.1.1, r1.2.1.2.1, ()), r1.2.2.1, ()))
  else
  (rows_at_2 x1 (r1.2.1.1, r1.2.1.2.1, ()) r1.2.2.1).bind fun r2 =>
  (bif (!r2.1.2.1) then
  some ((([] : List UInt8), false, ()), ((r2.2.1.1, r2.2.1.2.1, ()), r2.2.2.1, ()))
  else
  (if 0 ≤ (r2.1.1 : Int) ∧ (r2.1.1 : Int) < ((r2.2.1.1 : Nat) : Int) then
  (r2.2.2.1[(0 + (r2.1.1 : Int).toNat)]?).bind fun e3 =>
  some ((e3.value, true, ()), ((r2.2.1.1, r2.2.1.2.1, ()), r2.2.2.1, ()))
  else none)))
noncomputable def rows_Get_ce : CE CT Tryz.prog where
  f := 13
  args := [.one (.ptr 0 0), .one (.str)]
  hs := [.obj 58 [.asz 3 1, .bool], .arr 48 3 true]
  res := .tup [.one (.str), .one (.bool)]
  outs := [.obj 58 [.asz 3 1, .bool], .arr 48 3 true]
  m := fun d dh => rows_Get d.2.1 dh.1 dh.2.1
  ok := ce_ok mixedP Tryz.func13 (by kernel_rfl) (orcOf_ok rows_Get_tb) (dr := rows_Get_dr) (lps := lpsOf rows_Get_lt) (lps_fn (no_loop (by kernel_rfl))) (fun d dh => by kernel_rfl)

def watershedref15_Get_dr : Nat → Nat → DrA
  | _, _ => ⟨[], [], [], [], [], false, []⟩
noncomputable def watershedref15_Get_tb : List (CE CT Tryz.prog) := []
noncomputable def watershedref15_Get_l1 (a : ((Unit) × (List UInt8) × (Int) × Unit) × ((DRows) × Unit)) : Option ((((Unit) × (List UInt8) × (Int) × Unit) × ((DRows) × Unit)) ⊕ ((((List UInt8) × (Bool) × Unit) × ((DRows) × Unit)) ⊕ ((Unit) × ((DRows) × Unit)))) :=
  (bif (decide ((a.1.2.2.1 : Int) < (a.2.1.l.length : Int))) then
  (getI a.2.1.l a.1.2.2.1).bind fun e1 =>
  (bif (decide (e1.key = a.1.2.1)) then
  (getI a.2.1.l a.1.2.2.1).bind fun e2 =>
  some (.inr (.inl ((e2.value, true, ()), (a.2.1, ()))))
  else
  some (.inl (((), a.1.2.1, (IntKind.i64.wrap (a.1.2.2.1 + 1)), ()), (a.2.1, ()))))
  else
  some (.inr (.inr ((), (a.2.1, ())))))
noncomputable def watershedref15_Get_e1 : LE CT Tryz.prog := ⟨2, [0, 1, 6], [.one (.ptr 0 0), .one (.str), .one (.int .i64)], [.cobj 31 10], [⟨.ret, [4, 5], [.one (.str), .one (.bool)], [.cobj 31 10]⟩, ⟨.exit 0, [], [], [.cobj 31 10]⟩], watershedref15_Get_l1⟩
noncomputable def watershedref15_Get_lt : List (LE CT Tryz.prog) := [watershedref15_Get_e1]
theorem watershedref15_Get_e1_ok : LeOk watershedref15_Get_e1 (nthL (bodyOf Tryz.f14) 0) := fun A env h k z hk => le_ok (E := watershedref15_Get_e1) (orcOf_ok watershedref15_Get_tb) (dr := watershedref15_Get_dr) (lps := lpsOf watershedref15_Get_lt) (no_loop (by kernel_rfl)) (fun a => by kernel_rfl) env h k z hk
noncomputable def watershedref15_Get (x1 : List UInt8) (h0 : DRows) : Option (((List UInt8) × (Bool) × Unit) × ((DRows) × Unit)) :=
  (loopM watershedref15_Get_l1 (((), x1, 0, ()), (h0, ()))).bind fun b1 =>
  (match b1 with
  | .inl b2 =>
  some ((b2.1.1, b2.1.2.1, ()), (b2.2.1, ()))
  | .inr b3 =>
  some ((([] : List UInt8), false, ()), (b3.2.1, ())))
noncomputable def watershedref15_Get_ce : CE CT Tryz.prog where
  f := 14
  args := [.one (.ptr 0 0), .one (.str)]
  hs := [.cobj 31 10]
  res := .tup [.one (.str), .one (.bool)]
  outs := [.cobj 31 10]
  m := fun d dh => watershedref15_Get d.2.1 dh.1
  ok := ce_ok mixedP Tryz.func14 (by kernel_rfl) (orcOf_ok watershedref15_Get_tb) (dr := watershedref15_Get_dr) (lps := lpsOf watershedref15_Get_lt) (lps_fn (lps_of (n := 1) (by kernel_rfl) fun i hi => match i, hi with | 0, _ => lp_ok (E := watershedref15_Get_e1) (by kernel_rfl) watershedref15_Get_e1_ok)) (fun d dh => by kernel_rfl)

noncomputable def cloneEu26 (x0 : Nat × Nat) (h0 : List (DRow)) : Option (Nat × (List (DRow) × List (DRow) × Unit)) :=
  if x0.1 + x0.2 ≤ h0.length ∧ ((h0.drop x0.1).take x0.2).length ≤ 140737488355328 ∧ ((h0.drop x0.1).take x0.2).length * 32 ≤ 140737488355328 then some (((h0.drop x0.1).take x0.2).length, (h0, ((h0.drop x0.1).take x0.2), ())) else none
noncomputable def cloneEu26_ce : CE CT Tryz.prog where
  f := 26
  args := [.one (.asu 3 0)]
  hs := [.arr 48 3 true]
  res := .val (.one (.asz 3 1))
  outs := [.arr 48 3 true, .arr 48 3 false]
  m := fun d dh => cloneEu26 d.1 dh.1
  ok := fun d dh r hr => by
    unfold cloneEu26 at hr
    split at hr
    · rename_i hc
      injection hr with hr
      subst hr
      have hroom := hc.2
      exact Tr.lendArr (fun x => rfl) (U0 := fun _ => True) (Tr.kp0 (cloneE_tr mixedP Tryz.func26 (by kernel_rfl) rfl rfl (zv := .agg #[.string ⟨#[]⟩, .string ⟨#[]⟩]) (he := by kernel_rfl) (hsz := by kernel_rfl) (hz := by kernel_rfl) (hby := by kernel_rfl) rfl rfl (zt := ((⟨([] : List UInt8), ([] : List UInt8)⟩ : DRow) : DRow)) ((dh.1.drop d.1.1).take d.1.2) (by kernel_rfl) hroom)) (lend_as (Nat.le_trans (Nat.le_of_eq rfl) hc.1)) rfl
    · cases hr

def rows_In_2_dr : Nat → Nat → DrA
  | 3, _ => ⟨(List.range 10), [[], [0], [0, 1], [], [0, 1, 2, 3], (List.range 5), (List.range 6), (List.range 6), (List.range 7), (List.range 9)], [], [], [], false, []⟩
  | _, _ => ⟨[], [], [], [], [], false, []⟩
noncomputable def rows_In_2_tb : List (CE CT Tryz.prog) := [rows_known_ce, rows_bounds_ce, cloneEu26_ce]
noncomputable def rows_In_2_lt : List (LE CT Tryz.prog) := []
noncomputable def rows_In_2 (x1 : DSpan) (h0 : (Nat) × (Bool) × Unit) (h1 : List (DRow)) : Option ((Nat) × (((Nat) × (Bool) × Unit) × (List (DRow)) × (List (DRow)) × Unit)) :=
  (rows_known (h0.1, h0.2.1, ()) h1).bind fun r1 =>
  (bif (!r1.1) then
  some (0, ((r1.2.1.1, r1.2.1.2.1, ()), r1.2.2.1, [], ()))
  else
  (rows_bounds x1 (r1.2.1.1, r1.2.1.2.1, ()) r1.2.2.1).bind fun r2 =>
  (if 0 ≤ ((r2.1.1 : Int) : Int) ∧ ((r2.1.1 : Int) : Int) ≤ (r2.1.2.1 : Int) ∧ (r2.1.2.1 : Int) ≤ ((r2.2.1.1 : Nat) : Int) ∧ (r2.1.2.1 : Int) ≤ 140737488355328 then
  (cloneEu26 ((0 + (r2.1.1 : Int).toNat), ((r2.1.2.1 : Int).toNat - (r2.1.1 : Int).toNat)) r2.2.2.1).bind fun r3 =>
  some (r3.1, ((r2.2.1.1, r2.2.1.2.1, ()), r3.2.1, r3.2.2.1, ()))
  else none))
noncomputable def rows_In_2_ce : CE CT Tryz.prog where
  f := 16
  args := [.one (.ptr 0 0), .cod 5]
  hs := [.obj 58 [.asz 3 1, .bool], .arr 48 3 true]
  res := .val (.one (.asz 3 2))
  outs := [.obj 58 [.asz 3 1, .bool], .arr 48 3 true, .arr 48 3 false]
  m := fun d dh => rows_In_2 d.2.1 dh.1 dh.2.1
  ok := ce_ok mixedP Tryz.func16 (by kernel_rfl) (orcOf_ok rows_In_2_tb) (dr := rows_In_2_dr) (lps := lpsOf rows_In_2_lt) (lps_fn (no_loop (by kernel_rfl))) (fun d dh => by kernel_rfl)
end Go.Proofs.YtlmmpfbdgiokmaaGreat
