/- Models, by program. -/
import Derived.Test.YtlmmpfbdgiokmaaIn
import Derived.Test.YtlmmpfbdgiokmaaOa
import Derived.Test.YtlmmpfbdgiokmaaTw
import Derived.Test.YtlmmpfbdgiokmaaWr
import Derived.Test.YtlmmpfbdgiokmaaSl
import Derived.Test.YtlmmpfbdgiokmaaFx
import Derived.Test.YtlmmpfbdgiokmaaUn
import Derived.Test.YtlmmpfbdgiokmaaFt
namespace Go.Proofs.Ytlmmpfbdgiokmaa
open Go.RowKit
set_option maxRecDepth 100000
set_option linter.unusedVariables false
noncomputable def cmpstr (x y : List UInt8) : Option (Int × Unit) := some (Lib.compareBytes x y, ())
noncomputable def cmpstr_ce : CE CT Try.prog where
  f := 106
  args := [.one .str, .one .str]
  hs := []
  res := .val (.one (.int .i64))
  outs := []
  m := fun d dh => cmpstr d.1 d.2.1
  ok := fun d dh r hr => by
    unfold cmpstr at hr
    injection hr with hr
    subst hr
    exact cmpstr_tr Try.func106 (by kernel_rfl) (by kernel_rfl) (by kernel_rfl) (by kernel_rfl)

noncomputable def insert (n : Nat) (i : Int) (m : Nat × Nat × Nat) (xs ys : List (DRow)) : Option (Nat × (Unit × Unit × List (DRow) × Unit)) :=
  if InsertOk n i m.1 m.2.1 m.2.2 xs ys then some (n + m.2.1, ((), (), xs.take i.toNat ++ ys ++ xs.drop i.toNat, ())) else none
noncomputable def insert_ce : CE CT Try.prog where
  f := 65
  args := [.one (.asz 3 0), .one (.int .i64), .one (.as 3 1)]
  hs := [.arr 32 3 true, .arr 32 3 true]
  res := .val (.one (.asz 3 2))
  outs := [.dead, .dead, .arr 32 3 false]
  m := fun d dh => insert d.1 d.2.1 d.2.2.1 dh.1 dh.2.1
  ok := fun d dh r hr => by
    unfold insert at hr
    split at hr
    · rename_i hc
      injection hr with hr
      subst hr
      exact insert_tr hc
    · cases hr

noncomputable def delete (n : Nat) (i j : Int) (xs : List (DRow)) : Option (Nat × (Unit × List (DRow) × Unit)) :=
  if DeleteOk n i j xs then some (n - (j.toNat - i.toNat), ((), xs.take i.toNat ++ xs.drop j.toNat, ())) else none
noncomputable def delete_ce : CE CT Try.prog where
  f := 54
  args := [.one (.asz 3 0), .one (.int .i64), .one (.int .i64)]
  hs := [.arr 32 3 true]
  res := .val (.one (.asz 3 1))
  outs := [.dead, .arr 32 3 false]
  m := fun d dh => delete d.1 d.2.1 d.2.2.1 dh.1
  ok := fun d dh r hr => by
    unfold delete at hr
    split at hr
    · rename_i hc
      injection hr with hr
      subst hr
      exact delete_tr hc
    · cases hr

def rows_New_dr : Nat → DrA
  | _ => ⟨[], [], [], [], [], false, []⟩
noncomputable def rows_New_tb : List (CE CT Try.prog) := []
noncomputable def rows_New_lt : List (LE CT Try.prog) := []
noncomputable def rows_New  : Option ((Unit) × (((Nat) × (Bool) × Unit) × (List (DRow)) × Unit)) :=
  some ((), ((0, true, ()), [], ()))
noncomputable def rows_New_ce : CE CT Try.prog where
  f := 8
  args := []
  hs := []
  res := .val (.one (.ptr 0 0))
  outs := [.obj 73 [.asz 3 1, .bool], .arr 32 3 false]
  m := fun d dh => rows_New
  ok := ce_ok mixedP Try.func8 (by kernel_rfl) (orcOf_ok rows_New_tb) (dr := rows_New_dr) (lps := lpsOf rows_New_lt) (lps_fn (no_loop (by kernel_rfl))) (fun d dh => by kernel_rfl)

def rows_known_dr : Nat → DrA
  | _ => ⟨[], [], [], [], [], false, []⟩
noncomputable def rows_known_tb : List (CE CT Try.prog) := []
noncomputable def rows_known_lt : List (LE CT Try.prog) := []
noncomputable def rows_known (h0 : (Nat) × (Bool) × Unit) (h1 : List (DRow)) : Option ((Bool) × (((Nat) × (Bool) × Unit) × (List (DRow)) × Unit)) :=
  some (h0.2.1, ((h0.1, h0.2.1, ()), h1, ()))
noncomputable def rows_known_ce : CE CT Try.prog where
  f := 31
  args := [.one (.ptr 0 0)]
  hs := [.obj 73 [.asz 3 1, .bool], .arr 32 3 true]
  res := .val (.one (.bool))
  outs := [.obj 73 [.asz 3 1, .bool], .arr 32 3 true]
  m := fun d dh => rows_known dh.1 dh.2.1
  ok := ce_ok mixedP Try.func31 (by kernel_rfl) (orcOf_ok rows_known_tb) (dr := rows_known_dr) (lps := lpsOf rows_known_lt) (lps_fn (no_loop (by kernel_rfl))) (fun d dh => by kernel_rfl)

def span_Key_dr : Nat → DrA
  | _ => ⟨[], [], [], [], [], false, []⟩
noncomputable def span_Key_tb : List (CE CT Try.prog) := []
noncomputable def span_Key_l1 (a : ((List UInt8) × (Int) × (Int) × Unit) × (Unit)) : Option ((((List UInt8) × (Int) × (Int) × Unit) × (Unit)) ⊕ ((((Bool) × Unit) × (Unit)) ⊕ ((Unit) × (Unit)))) :=
  (bif (decide ((a.1.2.2.1 : Int) < a.1.2.1)) then
  (getI a.1.1 a.1.2.2.1).bind fun e1 =>
  (bif (decide ((97 : Int) ≤ (e1.toNat : Int))) then
  (bif (decide (((e1.toNat : Int) : Int) ≤ 122)) then
  some (.inl ((a.1.1, a.1.2.1, (IntKind.i64.wrap (a.1.2.2.1 + 1)), ()), ()))
  else
  (bif (decide ((48 : Int) ≤ (e1.toNat : Int))) then
  (bif (!(decide (((e1.toNat : Int) : Int) ≤ 57))) then
  some (.inr (.inl ((false, ()), ())))
  else
  some (.inl ((a.1.1, a.1.2.1, (IntKind.i64.wrap (a.1.2.2.1 + 1)), ()), ())))
  else
  some (.inr (.inl ((false, ()), ())))))
  else
  (bif (decide ((48 : Int) ≤ (e1.toNat : Int))) then
  (bif (!(decide (((e1.toNat : Int) : Int) ≤ 57))) then
  some (.inr (.inl ((false, ()), ())))
  else
  some (.inl ((a.1.1, a.1.2.1, (IntKind.i64.wrap (a.1.2.2.1 + 1)), ()), ())))
  else
  some (.inr (.inl ((false, ()), ())))))
  else
  some (.inr (.inr ((), ()))))
noncomputable def span_Key_e1 : LE CT Try.prog := ⟨4, [0, 13, 14], [.one (.str), .one (.int .i64), .one (.int .i64)], [], [⟨.ret, [2], [.one (.bool)], []⟩, ⟨.exit 0, [], [], []⟩], span_Key_l1⟩
noncomputable def span_Key_lt : List (LE CT Try.prog) := [span_Key_e1]
theorem span_Key_e1_ok : LeOk span_Key_e1 (nthL (bodyOf Try.f61) 0) := fun A env h k z hk => le_ok (E := span_Key_e1) (orcOf_ok span_Key_tb) (dr := span_Key_dr) (lps := lpsOf span_Key_lt) (no_loop (by kernel_rfl)) (fun a => by kernel_rfl) env h k z hk
noncomputable def span_Key (x0 : List UInt8) : Option ((Bool) × (Unit)) :=
  (bif (decide (x0 = ([] : List UInt8))) then
  some (false, ())
  else
  (bif (decide ((20 : Int) < (x0.length : Int))) then
  some (false, ())
  else
  (loopM span_Key_l1 ((x0, (x0.length : Int), 0, ()), ())).bind fun b1 =>
  (match b1 with
  | .inl b2 =>
  some (b2.1.1, ())
  | .inr b3 =>
  some (true, ()))))
noncomputable def span_Key_ce : CE CT Try.prog where
  f := 61
  args := [.one (.str)]
  hs := []
  res := .val (.one (.bool))
  outs := []
  m := fun d dh => span_Key d.1
  ok := ce_ok mixedP Try.func61 (by kernel_rfl) (orcOf_ok span_Key_tb) (dr := span_Key_dr) (lps := lpsOf span_Key_lt) (lps_fn (lps_of (n := 1) (by kernel_rfl) fun i hi => match i, hi with | 0, _ => lp_ok (E := span_Key_e1) (by kernel_rfl) span_Key_e1_ok)) (fun d dh => by kernel_rfl)

def rows_right_dr : Nat → DrA
  | _ => ⟨[], [], [], [], [], false, []⟩
noncomputable def rows_right_tb : List (CE CT Try.prog) := [span_Key_ce]
noncomputable def rows_right_lt : List (LE CT Try.prog) := []
noncomputable def rows_right (x0 : DRow) : Option ((Bool) × (Unit)) :=
  (span_Key x0.key).bind fun r1 =>
  (bif r1.1 then
  some ((decide (((x0.value.length : Int) : Int) ≤ 20)), ())
  else
  some (false, ()))
noncomputable def rows_right_ce : CE CT Try.prog where
  f := 34
  args := [.cod 3]
  hs := []
  res := .val (.one (.bool))
  outs := []
  m := fun d dh => rows_right d.1
  ok := ce_ok mixedP Try.func34 (by kernel_rfl) (orcOf_ok rows_right_tb) (dr := rows_right_dr) (lps := lpsOf rows_right_lt) (lps_fn (no_loop (by kernel_rfl))) (fun d dh => by kernel_rfl)

def rows_Put1_dr : Nat → DrA
  | _ => ⟨[], [], [], [], [], false, []⟩
noncomputable def rows_Put1_tb : List (CE CT Try.prog) := [rows_right_ce]
noncomputable def rows_Put1_lt : List (LE CT Try.prog) := []
noncomputable def rows_Put1 (x0 : DRow) : Option ((Bool) × (Unit)) :=
  (rows_right x0).bind fun r1 =>
  some ((!r1.1), ())
noncomputable def rows_Put1_ce : CE CT Try.prog where
  f := 33
  args := [.cod 3]
  hs := []
  res := .val (.one (.bool))
  outs := []
  m := fun d dh => rows_Put1 d.1
  ok := ce_ok mixedP Try.func33 (by kernel_rfl) (orcOf_ok rows_Put1_tb) (dr := rows_Put1_dr) (lps := lpsOf rows_Put1_lt) (lps_fn (no_loop (by kernel_rfl))) (fun d dh => by kernel_rfl)

def slices_IndexFunc_dr : Nat → DrA
  | _ => ⟨[], [], [], [], [], false, []⟩
noncomputable def slices_IndexFunc_tb : List (CE CT Try.prog) := [rows_Put1_ce]
noncomputable def slices_IndexFunc_l1 (a : ((List (DRow)) × (Unit) × (Int) × (Int) × Unit) × (Unit)) : Option ((((List (DRow)) × (Unit) × (Int) × (Int) × Unit) × (Unit)) ⊕ ((((Int) × Unit) × (Unit)) ⊕ ((Unit) × (Unit)))) :=
  (bif (decide ((a.1.2.2.2.1 : Int) < a.1.2.2.1)) then
  (getI a.1.1 a.1.2.2.2.1).bind fun e1 =>
  (rows_Put1 e1).bind fun r2 =>
  (bif r2.1 then
  some (.inr (.inl ((a.1.2.2.2.1, ()), ())))
  else
  some (.inl ((a.1.1, (), a.1.2.2.1, (IntKind.i64.wrap (a.1.2.2.2.1 + 1)), ()), ())))
  else
  some (.inr (.inr ((), ()))))
noncomputable def slices_IndexFunc_e1 : LE CT Try.prog := ⟨2, [0, 1, 7, 8], [.one (.sl 3), .one (.fn 33), .one (.int .i64), .one (.int .i64)], [], [⟨.ret, [4], [.one (.int .i64)], []⟩, ⟨.exit 0, [], [], []⟩], slices_IndexFunc_l1⟩
noncomputable def slices_IndexFunc_lt : List (LE CT Try.prog) := [slices_IndexFunc_e1]
theorem slices_IndexFunc_e1_ok : LeOk slices_IndexFunc_e1 (nthL (bodyOf Try.f64) 0) := fun A env h k z hk => le_ok (E := slices_IndexFunc_e1) (orcOf_ok slices_IndexFunc_tb) (dr := slices_IndexFunc_dr) (lps := lpsOf slices_IndexFunc_lt) (no_loop (by kernel_rfl)) (fun a => by kernel_rfl) env h k z hk
noncomputable def slices_IndexFunc (x0 : List (DRow)) : Option ((Int) × (Unit)) :=
  (loopM slices_IndexFunc_l1 ((x0, (), (x0.length : Int), 0, ()), ())).bind fun b1 =>
  (match b1 with
  | .inl b2 =>
  some (b2.1.1, ())
  | .inr b3 =>
  some ((-1), ()))
noncomputable def slices_IndexFunc_ce : CE CT Try.prog where
  f := 64
  args := [.one (.sl 3), .one (.fn 33)]
  hs := []
  res := .val (.one (.int .i64))
  outs := []
  m := fun d dh => slices_IndexFunc d.1
  ok := ce_ok mixedP Try.func64 (by kernel_rfl) (orcOf_ok slices_IndexFunc_tb) (dr := slices_IndexFunc_dr) (lps := lpsOf slices_IndexFunc_lt) (lps_fn (lps_of (n := 1) (by kernel_rfl) fun i hi => match i, hi with | 0, _ => lp_ok (E := slices_IndexFunc_e1) (by kernel_rfl) slices_IndexFunc_e1_ok)) (fun d dh => by kernel_rfl)

def slices_ContainsFunc_dr : Nat → DrA
  | _ => ⟨[], [], [], [], [], false, []⟩
noncomputable def slices_ContainsFunc_tb : List (CE CT Try.prog) := [slices_IndexFunc_ce]
noncomputable def slices_ContainsFunc_lt : List (LE CT Try.prog) := []
noncomputable def slices_ContainsFunc (x0 : List (DRow)) : Option ((Bool) × (Unit)) :=
  (slices_IndexFunc x0).bind fun r1 =>
  some ((decide ((0 : Int) ≤ r1.1)), ())
noncomputable def slices_ContainsFunc_ce : CE CT Try.prog where
  f := 32
  args := [.one (.sl 3), .one (.fn 33)]
  hs := []
  res := .val (.one (.bool))
  outs := []
  m := fun d dh => slices_ContainsFunc d.1
  ok := ce_ok mixedP Try.func32 (by kernel_rfl) (orcOf_ok slices_ContainsFunc_tb) (dr := slices_ContainsFunc_dr) (lps := lpsOf slices_ContainsFunc_lt) (lps_fn (no_loop (by kernel_rfl))) (fun d dh => by kernel_rfl)

noncomputable def cloneEz35 (x0 : Nat) (h0 : List (DRow)) : Option (Nat × (List (DRow) × List (DRow) × Unit)) :=
  if x0 ≤ h0.length ∧ (h0.take x0).length ≤ 140737488355328 ∧ (h0.take x0).length * 32 ≤ 140737488355328 then some ((h0.take x0).length, (h0, (h0.take x0), ())) else none
noncomputable def cloneEz35_ce : CE CT Try.prog where
  f := 35
  args := [.one (.asz 3 0)]
  hs := [.arr 32 3 true]
  res := .val (.one (.asz 3 1))
  outs := [.arr 32 3 true, .arr 32 3 false]
  m := fun d dh => cloneEz35 d.1 dh.1
  ok := fun d dh r hr => by
    unfold cloneEz35 at hr
    split at hr
    · rename_i hc
      injection hr with hr
      subst hr
      have hroom := hc.2
      exact Tr.lendArr (fun x => rfl) (U0 := fun _ => True) (Tr.kp0 (cloneE_tr mixedP Try.func35 (by kernel_rfl) rfl rfl (zv := .agg #[.string ⟨#[]⟩, .string ⟨#[]⟩]) (he := by kernel_rfl) (hsz := by kernel_rfl) (hz := by kernel_rfl) (hby := by kernel_rfl) rfl rfl (zt := ((⟨([] : List UInt8), ([] : List UInt8)⟩ : DRow) : DRow)) (dh.1.take d.1) (by kernel_rfl) hroom)) (lend_as (Nat.le_trans (Nat.le_of_eq (Nat.zero_add _)) hc.1)) rfl
    · cases hr

def bytealg_CompareString_dr : Nat → DrA
  | _ => ⟨[], [], [], [], [], false, []⟩
noncomputable def bytealg_CompareString_tb : List (CE CT Try.prog) := [cmpstr_ce]
noncomputable def bytealg_CompareString_lt : List (LE CT Try.prog) := []
noncomputable def bytealg_CompareString (x0 : List UInt8) (x1 : List UInt8) : Option ((Int) × (Unit)) :=
  (cmpstr x0 x1).bind fun r1 =>
  some (r1.1, ())
noncomputable def bytealg_CompareString_ce : CE CT Try.prog where
  f := 92
  args := [.one (.str), .one (.str)]
  hs := []
  res := .val (.one (.int .i64))
  outs := []
  m := fun d dh => bytealg_CompareString d.1 d.2.1
  ok := ce_ok mixedP Try.func92 (by kernel_rfl) (orcOf_ok bytealg_CompareString_tb) (dr := bytealg_CompareString_dr) (lps := lpsOf bytealg_CompareString_lt) (lps_fn (no_loop (by kernel_rfl))) (fun d dh => by kernel_rfl)

def strings_Compare_dr : Nat → DrA
  | _ => ⟨[], [], [], [], [], false, []⟩
noncomputable def strings_Compare_tb : List (CE CT Try.prog) := [bytealg_CompareString_ce]
noncomputable def strings_Compare_lt : List (LE CT Try.prog) := []
noncomputable def strings_Compare (x0 : List UInt8) (x1 : List UInt8) : Option ((Int) × (Unit)) :=
  (bytealg_CompareString x0 x1).bind fun r1 =>
  some (r1.1, ())
noncomputable def strings_Compare_ce : CE CT Try.prog where
  f := 84
  args := [.one (.str), .one (.str)]
  hs := []
  res := .val (.one (.int .i64))
  outs := []
  m := fun d dh => strings_Compare d.1 d.2.1
  ok := ce_ok mixedP Try.func84 (by kernel_rfl) (orcOf_ok strings_Compare_tb) (dr := strings_Compare_dr) (lps := lpsOf strings_Compare_lt) (lps_fn (no_loop (by kernel_rfl))) (fun d dh => by kernel_rfl)

def rows_at1_dr : Nat → DrA
  | _ => ⟨[], [], [], [], [], false, []⟩
noncomputable def rows_at1_tb : List (CE CT Try.prog) := [strings_Compare_ce]
noncomputable def rows_at1_lt : List (LE CT Try.prog) := []
noncomputable def rows_at1 (x0 : DRow) (x1 : List UInt8) : Option ((Int) × (Unit)) :=
  (strings_Compare x0.key x1).bind fun r1 =>
  some (r1.1, ())
noncomputable def rows_at1_ce : CE CT Try.prog where
  f := 83
  args := [.cod 3, .one (.str)]
  hs := []
  res := .val (.one (.int .i64))
  outs := []
  m := fun d dh => rows_at1 d.1 d.2.1
  ok := ce_ok mixedP Try.func83 (by kernel_rfl) (orcOf_ok rows_at1_tb) (dr := rows_at1_dr) (lps := lpsOf rows_at1_lt) (lps_fn (no_loop (by kernel_rfl))) (fun d dh => by kernel_rfl)

def slices_BinarySearchFunc_dr : Nat → DrA
  | _ => ⟨[], [], [], [], [], false, []⟩
noncomputable def slices_BinarySearchFunc_tb : List (CE CT Try.prog) := [rows_at1_ce]
noncomputable def slices_BinarySearchFunc_l1 (a : ((Nat) × (List UInt8) × (Unit) × (Int) × (Int) × (Int) × Unit) × ((List (DRow)) × Unit)) : Option ((((Nat) × (List UInt8) × (Unit) × (Int) × (Int) × (Int) × Unit) × ((List (DRow)) × Unit)) ⊕ ((((Nat) × (List UInt8) × (Unit) × (Int) × (Int) × Unit) × ((List (DRow)) × Unit)))) :=
  (bif (decide ((a.1.2.2.2.2.1 : Int) < a.1.2.2.2.2.2.1)) then
  let y1 : Int := (IntKind.i64.wrap (((IntKind.u64.wrap (IntKind.i64.wrap (a.1.2.2.2.2.1 + a.1.2.2.2.2.2.1))) : Int).fdiv (2 ^ min (1 : Int).toNat (IntKind.u64.bits))))
  (if 0 ≤ (y1 : Int) ∧ (y1 : Int) < ((a.1.1 : Nat) : Int) then
  (a.2.1[(0 + (y1 : Int).toNat)]?).bind fun e2 =>
  (rows_at1 e2 a.1.2.1).bind fun r3 =>
  (bif (decide ((r3.1 : Int) < 0)) then
  some (.inl ((a.1.1, a.1.2.1, (), a.1.2.2.2.1, (IntKind.i64.wrap (y1 + 1)), a.1.2.2.2.2.2.1, ()), (a.2.1, ())))
  else
  some (.inl ((a.1.1, a.1.2.1, (), a.1.2.2.2.1, a.1.2.2.2.2.1, y1, ()), (a.2.1, ()))))
  else none)
  else
  some (.inr ((a.1.1, a.1.2.1, (), a.1.2.2.2.1, a.1.2.2.2.2.1, ()), (a.2.1, ()))))
noncomputable def slices_BinarySearchFunc_e1 : LE CT Try.prog := ⟨3, [0, 1, 2, 8, 9, 10], [.one (.asz 3 0), .one (.str), .one (.fn 83), .one (.int .i64), .one (.int .i64), .one (.int .i64)], [.arr 32 3 true], [⟨.exit 0, [0, 1, 2, 8, 9], [.one (.asz 3 0), .one (.str), .one (.fn 83), .one (.int .i64), .one (.int .i64)], [.arr 32 3 true]⟩], slices_BinarySearchFunc_l1⟩
noncomputable def slices_BinarySearchFunc_lt : List (LE CT Try.prog) := [slices_BinarySearchFunc_e1]
theorem slices_BinarySearchFunc_e1_ok : LeOk slices_BinarySearchFunc_e1 (nthL (bodyOf Try.f82) 0) := fun A env h k z hk => le_ok (E := slices_BinarySearchFunc_e1) (orcOf_ok slices_BinarySearchFunc_tb) (dr := slices_BinarySearchFunc_dr) (lps := lpsOf slices_BinarySearchFunc_lt) (no_loop (by kernel_rfl)) (fun a => by kernel_rfl) env h k z hk
noncomputable def slices_BinarySearchFunc (x0 : Nat) (x1 : List UInt8) (h0 : List (DRow)) : Option (((Int) × (Bool) × Unit) × ((List (DRow)) × Unit)) :=
  (loopM slices_BinarySearchFunc_l1 ((x0, x1, (), ((x0 : Nat) : Int), 0, ((x0 : Nat) : Int), ()), (h0, ()))).bind fun b1 =>
  (bif (decide ((b1.1.2.2.2.2.1 : Int) < b1.1.2.2.2.1)) then
  (if 0 ≤ (b1.1.2.2.2.2.1 : Int) ∧ (b1.1.2.2.2.2.1 : Int) < ((b1.1.1 : Nat) : Int) then
  (b1.2.1[(0 + (b1.1.2.2.2.2.1 : Int).toNat)]?).bind fun e2 =>
  (rows_at1 e2 b1.1.2.1).bind fun r3 =>
  some ((b1.1.2.2.2.2.1, (decide ((r3.1 : Int) = 0)), ()), (b1.2.1, ()))
  else none)
  else
  some ((b1.1.2.2.2.2.1, false, ()), (b1.2.1, ())))
noncomputable def slices_BinarySearchFunc_ce : CE CT Try.prog where
  f := 82
  args := [.one (.asz 3 0), .one (.str), .one (.fn 83)]
  hs := [.arr 32 3 true]
  res := .tup [.one (.int .i64), .one (.bool)]
  outs := [.arr 32 3 true]
  m := fun d dh => slices_BinarySearchFunc d.1 d.2.1 dh.1
  ok := ce_ok mixedP Try.func82 (by kernel_rfl) (orcOf_ok slices_BinarySearchFunc_tb) (dr := slices_BinarySearchFunc_dr) (lps := lpsOf slices_BinarySearchFunc_lt) (lps_fn (lps_of (n := 1) (by kernel_rfl) fun i hi => match i, hi with | 0, _ => lp_ok (E := slices_BinarySearchFunc_e1) (by kernel_rfl) slices_BinarySearchFunc_e1_ok)) (fun d dh => by kernel_rfl)

def rows_at_dr : Nat → DrA
  | _ => ⟨[], [], [], [], [], false, []⟩
noncomputable def rows_at_tb : List (CE CT Try.prog) := [slices_BinarySearchFunc_ce]
noncomputable def rows_at_lt : List (LE CT Try.prog) := []
noncomputable def rows_at (x1 : List UInt8) (h0 : (Nat) × Unit) (h1 : List (DRow)) : Option (((Int) × (Bool) × Unit) × (((Nat) × Unit) × (List (DRow)) × Unit)) :=
  (slices_BinarySearchFunc h0.1 x1 h1).bind fun r1 =>
  some ((r1.1.1, r1.1.2.1, ()), ((h0.1, ()), r1.2.1, ()))
noncomputable def rows_at_ce : CE CT Try.prog where
  f := 59
  args := [.one (.ptr 0 0), .one (.str)]
  hs := [.obj 71 [.asz 3 1], .arr 32 3 true]
  res := .tup [.one (.int .i64), .one (.bool)]
  outs := [.obj 71 [.asz 3 1], .arr 32 3 true]
  m := fun d dh => rows_at d.2.1 dh.1 dh.2.1
  ok := ce_ok mixedP Try.func59 (by kernel_rfl) (orcOf_ok rows_at_tb) (dr := rows_at_dr) (lps := lpsOf rows_at_lt) (lps_fn (no_loop (by kernel_rfl))) (fun d dh => by kernel_rfl)

def rows_put_dr : Nat → DrA
  | 3 => ⟨[0, 1, 2, 4, 3, 5, 6, 7], [[], [0], [0, 1], [0, 1, 2], [], [], [0, 1, 2, 3, 4, 5], [0, 1, 2, 3, 4, 5, 6]], [], [], [], false, []⟩
  | 4 => ⟨[0, 1, 2, 3, 5, 4, 6, 7, 8, 9, 10, 11], [[], [], [1], [1, 2], [1, 2, 3], [], [], [6], [1, 2, 3, 4, 5, 6, 7], [0, 1, 2, 3, 4, 5, 6, 7, 8], [0, 1, 2, 3, 4, 5, 6, 7, 8, 9], [0, 1, 2, 3, 4, 5, 6, 7, 8, 9, 10]], [], [], [], false, [7]⟩
  | _ => ⟨[], [], [], [], [], false, []⟩
noncomputable def rows_put_tb : List (CE CT Try.prog) := [rows_at_ce, insert_ce]
noncomputable def rows_put_lt : List (LE CT Try.prog) := []
noncomputable def rows_put (x1 : DRow) (h0 : (Nat) × Unit) (h1 : List (DRow)) : Option ((Unit) × (((Nat) × Unit) × (Unit) × (List (DRow)) × Unit)) :=
  (rows_at x1.key (h0.1, ()) h1).bind fun r1 =>
  (bif r1.1.2.1 then
  (if 0 ≤ (r1.1.1 : Int) ∧ (r1.1.1 : Int) < ((r1.2.1.1 : Nat) : Int) then
  (r1.2.2.1[(0 + (r1.1.1 : Int).toNat)]?).bind fun e2 =>
  some ((), ((r1.2.1.1, ()), (), (r1.2.2.1.set (0 + (r1.1.1 : Int).toNat) x1), ()))
  else none)
  else
  (insert r1.2.1.1 r1.1.1 (0, 1, 1) r1.2.2.1 ([x1] : List (DRow))).bind fun r3 =>
  some ((), ((r3.1, ()), (), r3.2.2.2.1, ())))
noncomputable def rows_put_ce : CE CT Try.prog where
  f := 36
  args := [.one (.ptr 0 0), .cod 3]
  hs := [.obj 71 [.asz 3 1], .arr 32 3 false]
  res := .tup []
  outs := [.obj 71 [.asz 3 2], .dead, .arr 32 3 false]
  m := fun d dh => rows_put d.2.1 dh.1 dh.2.1
  ok := ce_ok mixedP Try.func36 (by kernel_rfl) (orcOf_ok rows_put_tb) (dr := rows_put_dr) (lps := lpsOf rows_put_lt) (lps_fn (no_loop (by kernel_rfl))) (fun d dh => by kernel_rfl)

def rows_Put_dr : Nat → DrA
  | _ => ⟨[], [], [], [], [], false, []⟩
noncomputable def rows_Put_tb : List (CE CT Try.prog) := [rows_known_ce, slices_ContainsFunc_ce, cloneEz35_ce, rows_put_ce]
noncomputable def rows_Put_l1 (a : ((Unit) × (Unit) × (List (DRow)) × (Int) × (Int) × Unit) × (((Nat) × (Bool) × Unit) × ((Nat) × Unit) × (List (DRow)) × (List (DRow)) × Unit)) : Option ((((Unit) × (Unit) × (List (DRow)) × (Int) × (Int) × Unit) × (((Nat) × (Bool) × Unit) × ((Nat) × Unit) × (List (DRow)) × (List (DRow)) × Unit)) ⊕ ((((Unit) × (Unit) × Unit) × (((Nat) × (Bool) × Unit) × ((Nat) × Unit) × (Unit) × (Unit) × (List (DRow)) × (List (DRow)) × Unit)))) :=
  (bif (decide ((a.1.2.2.2.2.1 : Int) < a.1.2.2.2.1)) then
  (getI a.1.2.2.1 a.1.2.2.2.2.1).bind fun e1 =>
  (rows_put e1 (a.2.2.1.1, ()) a.2.2.2.2.1).bind fun r2 =>
  some (.inl (((), (), a.1.2.2.1, a.1.2.2.2.1, (IntKind.i64.wrap (a.1.2.2.2.2.1 + 1)), ()), ((a.2.1.1, a.2.1.2.1, ()), (r2.2.1.1, ()), a.2.2.2.1, r2.2.2.2.1, ())))
  else
  some (.inr (((), (), ()), ((a.2.1.1, a.2.1.2.1, ()), (a.2.2.1.1, ()), (), (), a.2.2.2.1, a.2.2.2.2.1, ()))))
noncomputable def rows_Put_e1 : LE CT Try.prog := ⟨7, [0, 5, 22, 23, 24], [.one (.ptr 0 0), .one (.ptr 1 0), .one (.sl 3), .one (.int .i64), .one (.int .i64)], [.obj 73 [.asz 3 2, .bool], .obj 71 [.asz 3 3], .arr 32 3 false, .arr 32 3 false], [⟨.exit 1, [0, 5], [.one (.ptr 0 0), .one (.ptr 1 0)], [.obj 73 [.asz 3 4, .bool], .obj 71 [.asz 3 5], .dead, .dead, .arr 32 3 false, .arr 32 3 false]⟩], rows_Put_l1⟩
noncomputable def rows_Put_lt : List (LE CT Try.prog) := [rows_Put_e1]
theorem rows_Put_e1_ok : LeOk rows_Put_e1 (nthL (bodyOf Try.f9) 0) := fun A env h k z hk => le_ok (E := rows_Put_e1) (orcOf_ok rows_Put_tb) (dr := rows_Put_dr) (lps := lpsOf rows_Put_lt) (no_loop (by kernel_rfl)) (fun a => by kernel_rfl) env h k z hk
noncomputable def rows_Put (x1 : List (DRow)) (h0 : (Nat) × (Bool) × Unit) (h1 : List (DRow)) : Option ((Int) × (((Nat) × (Bool) × Unit) × (Unit) × (List (DRow)) × Unit)) :=
  (rows_known (h0.1, h0.2.1, ()) h1).bind fun r1 =>
  (bif (!r1.1) then
  some (1, ((r1.2.1.1, r1.2.1.2.1, ()), (), r1.2.2.1, ()))
  else
  (slices_ContainsFunc x1).bind fun r2 =>
  (bif r2.1 then
  some (2, ((r1.2.1.1, r1.2.1.2.1, ()), (), r1.2.2.1, ()))
  else
  (cloneEz35 r1.2.1.1 r1.2.2.1).bind fun r3 =>
  (loopM rows_Put_l1 (((), (), x1, (x1.length : Int), 0, ()), ((r1.2.1.1, r1.2.1.2.1, ()), (r3.1, ()), r3.2.1, r3.2.2.1, ()))).bind fun b4 =>
  (bif (decide ((400 : Int) < ((b4.2.2.1.1 : Nat) : Int))) then
  some (8, ((b4.2.1.1, b4.2.1.2.1, ()), (), b4.2.2.2.2.2.1, ()))
  else
  some (0, ((b4.2.2.1.1, b4.2.1.2.1, ()), (), b4.2.2.2.2.2.2.1, ())))))
noncomputable def rows_Put_ce : CE CT Try.prog where
  f := 9
  args := [.one (.ptr 0 0), .one (.sl 3)]
  hs := [.obj 73 [.asz 3 1, .bool], .arr 32 3 false]
  res := .val (.one (.int .i64))
  outs := [.obj 73 [.asz 3 2, .bool], .dead, .arr 32 3 false]
  m := fun d dh => rows_Put d.2.1 dh.1 dh.2.1
  ok := ce_ok mixedP Try.func9 (by kernel_rfl) (orcOf_ok rows_Put_tb) (dr := rows_Put_dr) (lps := lpsOf rows_Put_lt) (lps_fn (lps_of (n := 1) (by kernel_rfl) fun i hi => match i, hi with | 0, _ => lp_ok (E := rows_Put_e1) (by kernel_rfl) rows_Put_e1_ok)) (fun d dh => by kernel_rfl)

def span_ends_dr : Nat → DrA
  | 1 => ⟨[0, 4, 1, 2, 3, 5, 6, 7, 8, 9], [[], [0], [0, 1], [0, 1, 2], [], [4], [4, 5], [4, 5, 6], [0, 1, 2, 3], [0, 1, 2, 3, 4, 5, 6, 7, 8]], [5], [8], [0], false, []⟩
  | _ => ⟨[], [], [], [], [], false, []⟩
noncomputable def span_ends_tb : List (CE CT Try.prog) := []
noncomputable def span_ends_lt : List (LE CT Try.prog) := []
noncomputable def span_ends (x0 : DSpan) : Option (((DLow) × (DHigh) × Unit) × (Unit)) :=
  some (((⟨(⟨x0.lo⟩ : DText)⟩ : DLow), (⟨(⟨x0.hi⟩ : DText)⟩ : DHigh), ()), ())
noncomputable def span_ends_ce : CE CT Try.prog where
  f := 60
  args := [.cod 5]
  hs := []
  res := .tup [.cod 7, .cod 8]
  outs := []
  m := fun d dh => span_ends d.1
  ok := ce_ok mixedP Try.func60 (by kernel_rfl) (orcOf_ok span_ends_tb) (dr := span_ends_dr) (lps := lpsOf span_ends_lt) (lps_fn (no_loop (by kernel_rfl))) (fun d dh => by kernel_rfl)

def span_none_dr : Nat → DrA
  | _ => ⟨[], [], [], [], [], false, []⟩
noncomputable def span_none_tb : List (CE CT Try.prog) := []
noncomputable def span_none_lt : List (LE CT Try.prog) := []
noncomputable def span_none (x0 : DText) : Option ((Bool) × (Unit)) :=
  some ((decide (x0.s = ([] : List UInt8))), ())
noncomputable def span_none_ce : CE CT Try.prog where
  f := 78
  args := [.cod 6]
  hs := []
  res := .val (.one (.bool))
  outs := []
  m := fun d dh => span_none d.1
  ok := ce_ok mixedP Try.func78 (by kernel_rfl) (orcOf_ok span_none_tb) (dr := span_none_dr) (lps := lpsOf span_none_lt) (lps_fn (no_loop (by kernel_rfl))) (fun d dh => by kernel_rfl)

def cmp_isNaN_dr : Nat → DrA
  | _ => ⟨[], [], [], [], [], false, []⟩
noncomputable def cmp_isNaN_tb : List (CE CT Try.prog) := []
noncomputable def cmp_isNaN_lt : List (LE CT Try.prog) := []
noncomputable def cmp_isNaN (x0 : List UInt8) : Option ((Bool) × (Unit)) :=
  some ((decide (x0 ≠ x0)), ())
noncomputable def cmp_isNaN_ce : CE CT Try.prog where
  f := 93
  args := [.one (.str)]
  hs := []
  res := .val (.one (.bool))
  outs := []
  m := fun d dh => cmp_isNaN d.1
  ok := ce_ok mixedP Try.func93 (by kernel_rfl) (orcOf_ok cmp_isNaN_tb) (dr := cmp_isNaN_dr) (lps := lpsOf cmp_isNaN_lt) (lps_fn (no_loop (by kernel_rfl))) (fun d dh => by kernel_rfl)

def cmp_Compare_dr : Nat → DrA
  | _ => ⟨[], [], [], [], [], false, []⟩
noncomputable def cmp_Compare_tb : List (CE CT Try.prog) := [cmp_isNaN_ce]
noncomputable def cmp_Compare_lt : List (LE CT Try.prog) := []
noncomputable def cmp_Compare (x0 : List UInt8) (x1 : List UInt8) : Option ((Int) × (Unit)) :=
  (cmp_isNaN x0).bind fun r1 =>
  (cmp_isNaN x1).bind fun r2 =>
  (bif r1.1 then
  (bif r2.1 then
  some (0, ())
  else
  some ((-1), ()))
  else
  (bif r2.1 then
  some (1, ())
  else
  (bif (decide (x0 < x1)) then
  some ((-1), ())
  else
  (bif (!(decide (x0 < x1) || decide (x0 = x1))) then
  some (1, ())
  else
  some (0, ())))))
noncomputable def cmp_Compare_ce : CE CT Try.prog where
  f := 85
  args := [.one (.str), .one (.str)]
  hs := []
  res := .val (.one (.int .i64))
  outs := []
  m := fun d dh => cmp_Compare d.1 d.2.1
  ok := ce_ok mixedP Try.func85 (by kernel_rfl) (orcOf_ok cmp_Compare_tb) (dr := cmp_Compare_dr) (lps := lpsOf cmp_Compare_lt) (lps_fn (no_loop (by kernel_rfl))) (fun d dh => by kernel_rfl)

def span_compare_dr : Nat → DrA
  | _ => ⟨[], [], [], [], [], false, []⟩
noncomputable def span_compare_tb : List (CE CT Try.prog) := [cmp_Compare_ce]
noncomputable def span_compare_lt : List (LE CT Try.prog) := []
noncomputable def span_compare (x0 : DText) (x1 : DText) : Option ((Int) × (Unit)) :=
  (cmp_Compare x0.s x1.s).bind fun r1 =>
  some (r1.1, ())
noncomputable def span_compare_ce : CE CT Try.prog where
  f := 62
  args := [.cod 6, .cod 6]
  hs := []
  res := .val (.one (.int .i64))
  outs := []
  m := fun d dh => span_compare d.1 d.2.1
  ok := ce_ok mixedP Try.func62 (by kernel_rfl) (orcOf_ok span_compare_tb) (dr := span_compare_dr) (lps := lpsOf span_compare_lt) (lps_fn (no_loop (by kernel_rfl))) (fun d dh => by kernel_rfl)

def span_above_dr : Nat → DrA
  | _ => ⟨[], [], [], [], [], false, []⟩
noncomputable def span_above_tb : List (CE CT Try.prog) := [span_none_ce, span_compare_ce]
noncomputable def span_above_lt : List (LE CT Try.prog) := []
noncomputable def span_above (x0 : DHigh) (x1 : DText) : Option ((Bool) × (Unit)) :=
  (span_none x0.text).bind fun r1 =>
  (bif r1.1 then
  some (true, ())
  else
  (span_compare x0.text x1).bind fun r2 =>
  some ((decide ((0 : Int) < r2.1)), ()))
noncomputable def span_above_ce : CE CT Try.prog where
  f := 63
  args := [.cod 8, .cod 6]
  hs := []
  res := .val (.one (.bool))
  outs := []
  m := fun d dh => span_above d.1 d.2.1
  ok := ce_ok mixedP Try.func63 (by kernel_rfl) (orcOf_ok span_above_tb) (dr := span_above_dr) (lps := lpsOf span_above_lt) (lps_fn (no_loop (by kernel_rfl))) (fun d dh => by kernel_rfl)

def span_Right_dr : Nat → DrA
  | _ => ⟨[], [], [], [], [], false, []⟩
noncomputable def span_Right_tb : List (CE CT Try.prog) := [span_ends_ce, span_none_ce, span_above_ce, span_Key_ce]
noncomputable def span_Right_lt : List (LE CT Try.prog) := []
noncomputable def span_Right (x0 : DSpan) : Option ((Bool) × (Unit)) :=
  (span_ends x0).bind fun r1 =>
  (span_none r1.1.1.text).bind fun r2 =>
  (bif r2.1 then
  (span_none r1.1.2.1.text).bind fun r3 =>
  (bif r3.1 then
  (span_above r1.1.2.1 r1.1.1.text).bind fun r4 =>
  some (r4.1, ())
  else
  (span_Key x0.hi).bind fun r5 =>
  (bif r5.1 then
  (span_above r1.1.2.1 r1.1.1.text).bind fun r6 =>
  some (r6.1, ())
  else
  some (false, ())))
  else
  (span_Key x0.lo).bind fun r7 =>
  (bif r7.1 then
  (span_none r1.1.2.1.text).bind fun r8 =>
  (bif r8.1 then
  (span_above r1.1.2.1 r1.1.1.text).bind fun r9 =>
  some (r9.1, ())
  else
  (span_Key x0.hi).bind fun r10 =>
  (bif r10.1 then
  (span_above r1.1.2.1 r1.1.1.text).bind fun r11 =>
  some (r11.1, ())
  else
  some (false, ())))
  else
  some (false, ())))
noncomputable def span_Right_ce : CE CT Try.prog where
  f := 55
  args := [.cod 5]
  hs := []
  res := .val (.one (.bool))
  outs := []
  m := fun d dh => span_Right d.1
  ok := ce_ok mixedP Try.func55 (by kernel_rfl) (orcOf_ok span_Right_tb) (dr := span_Right_dr) (lps := lpsOf span_Right_lt) (lps_fn (no_loop (by kernel_rfl))) (fun d dh => by kernel_rfl)

def rows_at_2_dr : Nat → DrA
  | _ => ⟨[], [], [], [], [], false, []⟩
noncomputable def rows_at_2_tb : List (CE CT Try.prog) := [slices_BinarySearchFunc_ce]
noncomputable def rows_at_2_lt : List (LE CT Try.prog) := []
noncomputable def rows_at_2 (x1 : List UInt8) (h0 : (Nat) × (Bool) × Unit) (h1 : List (DRow)) : Option (((Int) × (Bool) × Unit) × (((Nat) × (Bool) × Unit) × (List (DRow)) × Unit)) :=
  (slices_BinarySearchFunc h0.1 x1 h1).bind fun r1 =>
  some ((r1.1.1, r1.1.2.1, ()), ((h0.1, h0.2.1, ()), r1.2.1, ()))
noncomputable def rows_at_2_ce : CE CT Try.prog where
  f := 59
  args := [.one (.ptr 0 0), .one (.str)]
  hs := [.obj 73 [.asz 3 1, .bool], .arr 32 3 true]
  res := .tup [.one (.int .i64), .one (.bool)]
  outs := [.obj 73 [.asz 3 1, .bool], .arr 32 3 true]
  m := fun d dh => rows_at_2 d.2.1 dh.1 dh.2.1
  ok := ce_ok mixedP Try.func59 (by kernel_rfl) (orcOf_ok rows_at_2_tb) (dr := rows_at_2_dr) (lps := lpsOf rows_at_2_lt) (lps_fn (no_loop (by kernel_rfl))) (fun d dh => by kernel_rfl)

def rows_bounds_dr : Nat → DrA
  | _ => ⟨[], [], [], [], [], false, []⟩
noncomputable def rows_bounds_tb : List (CE CT Try.prog) := [span_Right_ce, rows_at_2_ce]
noncomputable def rows_bounds_lt : List (LE CT Try.prog) := []
noncomputable def rows_bounds (x1 : DSpan) (h0 : (Nat) × (Bool) × Unit) (h1 : List (DRow)) : Option (((Int) × (Int) × Unit) × (((Nat) × (Bool) × Unit) × (List (DRow)) × Unit)) :=
  (span_Right x1).bind fun r1 =>
  (bif (!r1.1) then
  some ((0, 0, ()), ((h0.1, h0.2.1, ()), h1, ()))
  else
  (rows_at_2 x1.lo (h0.1, h0.2.1, ()) h1).bind fun r2 =>
  (bif (decide (x1.hi ≠ ([] : List UInt8))) then
  (rows_at_2 x1.hi (r2.2.1.1, r2.2.1.2.1, ()) r2.2.2.1).bind fun r3 =>
  some ((r2.1.1, r3.1.1, ()), ((r3.2.1.1, r3.2.1.2.1, ()), r3.2.2.1, ()))
  else
  some ((r2.1.1, ((r2.2.1.1 : Nat) : Int), ()), ((r2.2.1.1, r2.2.1.2.1, ()), r2.2.2.1, ()))))
noncomputable def rows_bounds_ce : CE CT Try.prog where
  f := 37
  args := [.one (.ptr 0 0), .cod 5]
  hs := [.obj 73 [.asz 3 1, .bool], .arr 32 3 true]
  res := .tup [.one (.int .i64), .one (.int .i64)]
  outs := [.obj 73 [.asz 3 1, .bool], .arr 32 3 true]
  m := fun d dh => rows_bounds d.2.1 dh.1 dh.2.1
  ok := ce_ok mixedP Try.func37 (by kernel_rfl) (orcOf_ok rows_bounds_tb) (dr := rows_bounds_dr) (lps := lpsOf rows_bounds_lt) (lps_fn (no_loop (by kernel_rfl))) (fun d dh => by kernel_rfl)

noncomputable def cloneRu35 (x0 : Nat × Nat) (h0 : List (DRow)) : Option (List (DRow) × (List (DRow) × Unit × Unit)) :=
  if x0.1 + x0.2 ≤ h0.length ∧ ((h0.drop x0.1).take x0.2).length ≤ 140737488355328 ∧ ((h0.drop x0.1).take x0.2).length * 32 ≤ 140737488355328 then some (((h0.drop x0.1).take x0.2), (h0, (), ())) else none
noncomputable def cloneRu35_ce : CE CT Try.prog where
  f := 35
  args := [.one (.asu 3 0)]
  hs := [.arr 32 3 true]
  res := .val (.one (.own 3 1))
  outs := [.arr 32 3 true, .row 32 2]
  m := fun d dh => cloneRu35 d.1 dh.1
  ok := fun d dh r hr => by
    unfold cloneRu35 at hr
    split at hr
    · rename_i hc
      injection hr with hr
      subst hr
      have hroom := hc.2
      exact Tr.lendRow (fun x => rfl) rfl (U0 := fun _ => True) (clone_tr mixedP Try.func35 (by kernel_rfl) rfl rfl (zv := .agg #[.string ⟨#[]⟩, .string ⟨#[]⟩]) (he := by kernel_rfl) (hsz := by kernel_rfl) (hz := by kernel_rfl) (hby := by kernel_rfl) rfl rfl ((dh.1.drop d.1.1).take d.1.2) hroom) (lend_as (Nat.le_trans (Nat.le_of_eq rfl) hc.1)) 
    · cases hr

def rows_In_dr : Nat → DrA
  | 3 => ⟨[0, 1, 2, 3, 4, 5, 6, 7, 8, 9], [[], [0], [0, 1], [], [0, 1, 2, 3], [0, 1, 2, 3, 4], [0, 1, 2, 3, 4, 5], [0, 1, 2, 3, 4, 5], [0, 1, 2, 3, 4, 5, 6], [0, 1, 2, 3, 4, 5, 6, 7, 8]], [], [], [], false, []⟩
  | _ => ⟨[], [], [], [], [], false, []⟩
noncomputable def rows_In_tb : List (CE CT Try.prog) := [rows_known_ce, rows_bounds_ce, cloneRu35_ce]
noncomputable def rows_In_lt : List (LE CT Try.prog) := []
noncomputable def rows_In (x1 : DSpan) (h0 : (Nat) × (Bool) × Unit) (h1 : List (DRow)) : Option ((List (DRow)) × (((Nat) × (Bool) × Unit) × (List (DRow)) × (Unit) × Unit)) :=
  (rows_known (h0.1, h0.2.1, ()) h1).bind fun r1 =>
  (bif (!r1.1) then
  some ([], ((r1.2.1.1, r1.2.1.2.1, ()), r1.2.2.1, (), ()))
  else
  (rows_bounds x1 (r1.2.1.1, r1.2.1.2.1, ()) r1.2.2.1).bind fun r2 =>
  (if 0 ≤ ((r2.1.1 : Int) : Int) ∧ ((r2.1.1 : Int) : Int) ≤ (r2.1.2.1 : Int) ∧ (r2.1.2.1 : Int) ≤ ((r2.2.1.1 : Nat) : Int) ∧ (r2.1.2.1 : Int) ≤ 140737488355328 then
  (cloneRu35 ((0 + (r2.1.1 : Int).toNat), ((r2.1.2.1 : Int).toNat - (r2.1.1 : Int).toNat)) r2.2.2.1).bind fun r3 =>
  some (r3.1, ((r2.2.1.1, r2.2.1.2.1, ()), r3.2.1, (), ()))
  else none))
noncomputable def rows_In_ce : CE CT Try.prog where
  f := 11
  args := [.one (.ptr 0 0), .cod 5]
  hs := [.obj 73 [.asz 3 1, .bool], .arr 32 3 true]
  res := .val (.one (.own 3 2))
  outs := [.obj 73 [.asz 3 1, .bool], .arr 32 3 true, .row 32 2]
  m := fun d dh => rows_In d.2.1 dh.1 dh.2.1
  ok := ce_ok mixedP Try.func11 (by kernel_rfl) (orcOf_ok rows_In_tb) (dr := rows_In_dr) (lps := lpsOf rows_In_lt) (lps_fn (no_loop (by kernel_rfl))) (fun d dh => by kernel_rfl)

def rows_Take_dr : Nat → DrA
  | 3 => ⟨[0, 1, 2, 3, 4, 5, 6, 7, 8, 9], [[], [0], [0, 1], [], [0, 1, 2, 3], [0, 1, 2, 3, 4], [0, 1, 2, 3, 4, 5], [0, 1, 2, 3, 4, 5], [0, 1, 2, 3, 4, 5, 6], [0, 1, 2, 3, 4, 5, 6, 7, 8]], [], [], [], false, []⟩
  | _ => ⟨[], [], [], [], [], false, []⟩
noncomputable def rows_Take_tb : List (CE CT Try.prog) := [rows_In_ce, rows_known_ce, rows_bounds_ce, delete_ce]
noncomputable def rows_Take_lt : List (LE CT Try.prog) := []
noncomputable def rows_Take (x1 : DSpan) (h0 : (Nat) × (Bool) × Unit) (h1 : List (DRow)) : Option ((List (DRow)) × (((Nat) × (Bool) × Unit) × (Unit) × (Unit) × (List (DRow)) × Unit)) :=
  (rows_In x1 (h0.1, h0.2.1, ()) h1).bind fun r1 =>
  (rows_known (r1.2.1.1, r1.2.1.2.1, ()) r1.2.2.1).bind fun r2 =>
  (bif r2.1 then
  (rows_bounds x1 (r2.2.1.1, r2.2.1.2.1, ()) r2.2.2.1).bind fun r3 =>
  (delete r3.2.1.1 r3.1.1 r3.1.2.1 r3.2.2.1).bind fun r4 =>
  some (r1.1, ((r4.1, r3.2.1.2.1, ()), (), (), r4.2.2.1, ()))
  else
  some (r1.1, ((r2.2.1.1, r2.2.1.2.1, ()), (), (), r2.2.2.1, ())))
noncomputable def rows_Take_ce : CE CT Try.prog where
  f := 27
  args := [.one (.ptr 0 0), .cod 5]
  hs := [.obj 73 [.asz 3 1, .bool], .arr 32 3 false]
  res := .val (.one (.own 3 2))
  outs := [.obj 73 [.asz 3 3, .bool], .dead, .row 32 2, .arr 32 3 false]
  m := fun d dh => rows_Take d.2.1 dh.1 dh.2.1
  ok := ce_ok mixedP Try.func27 (by kernel_rfl) (orcOf_ok rows_Take_tb) (dr := rows_Take_dr) (lps := lpsOf rows_Take_lt) (lps_fn (no_loop (by kernel_rfl))) (fun d dh => by kernel_rfl)

def watershedkit_SameLines_dr : Nat → DrA
  | 6 => ⟨[0, 1, 2, 4, 5, 6, 3, 7, 8], [[], [], [0, 1], [0, 1, 2], [], [], [4, 5], [4, 5, 6], [0, 1, 2, 3, 4, 5, 6, 7]], [], [], [], false, []⟩
  | _ => ⟨[], [], [], [], [], false, []⟩
noncomputable def watershedkit_SameLines_tb : List (CE CT Try.prog) := []
noncomputable def watershedkit_SameLines_l1 (a : ((List (DRow)) × (List (DRow)) × (Int) × Unit) × (Unit)) : Option ((((List (DRow)) × (List (DRow)) × (Int) × Unit) × (Unit)) ⊕ ((((Bool) × Unit) × (Unit)) ⊕ ((Unit) × (Unit)))) :=
  (bif (decide ((a.1.2.2.1 : Int) < (a.1.1.length : Int))) then
  (getI a.1.1 a.1.2.2.1).bind fun e1 =>
  (getI a.1.2.1 a.1.2.2.1).bind fun e2 =>
  (bif (!(decide (e1.key = e2.key) && (decide (e1.value = e2.value) && true))) then
  some (.inr (.inl ((false, ()), ())))
  else
  some (.inl ((a.1.1, a.1.2.1, (IntKind.i64.wrap (a.1.2.2.1 + 1)), ()), ())))
  else
  some (.inr (.inr ((), ()))))
noncomputable def watershedkit_SameLines_e1 : LE CT Try.prog := ⟨4, [0, 1, 5], [.one (.sl 3), .one (.sl 3), .one (.int .i64)], [], [⟨.ret, [4], [.one (.bool)], []⟩, ⟨.exit 0, [], [], []⟩], watershedkit_SameLines_l1⟩
noncomputable def watershedkit_SameLines_lt : List (LE CT Try.prog) := [watershedkit_SameLines_e1]
theorem watershedkit_SameLines_e1_ok : LeOk watershedkit_SameLines_e1 (nthL (bodyOf Try.f13) 0) := fun A env h k z hk => le_ok (E := watershedkit_SameLines_e1) (orcOf_ok watershedkit_SameLines_tb) (dr := watershedkit_SameLines_dr) (lps := lpsOf watershedkit_SameLines_lt) (no_loop (by kernel_rfl)) (fun a => by kernel_rfl) env h k z hk
noncomputable def watershedkit_SameLines (x0 : List (DRow)) (x1 : List (DRow)) : Option ((Bool) × (Unit)) :=
  (bif (decide (((x0.length : Int) : Int) ≠ (x1.length : Int))) then
  some (false, ())
  else
  (loopM watershedkit_SameLines_l1 ((x0, x1, 0, ()), ())).bind fun b1 =>
  (match b1 with
  | .inl b2 =>
  some (b2.1.1, ())
  | .inr b3 =>
  some (true, ())))
noncomputable def watershedkit_SameLines_ce : CE CT Try.prog where
  f := 13
  args := [.one (.sl 3), .one (.sl 3)]
  hs := []
  res := .val (.one (.bool))
  outs := []
  m := fun d dh => watershedkit_SameLines d.1 d.2.1
  ok := ce_ok mixedP Try.func13 (by kernel_rfl) (orcOf_ok watershedkit_SameLines_tb) (dr := watershedkit_SameLines_dr) (lps := lpsOf watershedkit_SameLines_lt) (lps_fn (lps_of (n := 1) (by kernel_rfl) fun i hi => match i, hi with | 0, _ => lp_ok (E := watershedkit_SameLines_e1) (by kernel_rfl) watershedkit_SameLines_e1_ok)) (fun d dh => by kernel_rfl)

def rows_Many_dr : Nat → DrA
  | _ => ⟨[], [], [], [], [], false, []⟩
noncomputable def rows_Many_tb : List (CE CT Try.prog) := [rows_known_ce]
noncomputable def rows_Many_lt : List (LE CT Try.prog) := []
noncomputable def rows_Many (h0 : (Nat) × (Bool) × Unit) (h1 : List (DRow)) : Option ((Int) × (((Nat) × (Bool) × Unit) × (List (DRow)) × Unit)) :=
  (rows_known (h0.1, h0.2.1, ()) h1).bind fun r1 =>
  (bif (!r1.1) then
  some (0, ((r1.2.1.1, r1.2.1.2.1, ()), r1.2.2.1, ()))
  else
  some (((r1.2.1.1 : Nat) : Int), ((r1.2.1.1, r1.2.1.2.1, ()), r1.2.2.1, ())))
noncomputable def rows_Many_ce : CE CT Try.prog where
  f := 10
  args := [.one (.ptr 0 0)]
  hs := [.obj 73 [.asz 3 1, .bool], .arr 32 3 true]
  res := .val (.one (.int .i64))
  outs := [.obj 73 [.asz 3 1, .bool], .arr 32 3 true]
  m := fun d dh => rows_Many dh.1 dh.2.1
  ok := ce_ok mixedP Try.func10 (by kernel_rfl) (orcOf_ok rows_Many_tb) (dr := rows_Many_dr) (lps := lpsOf rows_Many_lt) (lps_fn (no_loop (by kernel_rfl))) (fun d dh => by kernel_rfl)

def watershedlaw15_awake_dr : Nat → DrA
  | _ => ⟨[], [], [], [], [], false, []⟩
noncomputable def watershedlaw15_awake_tb : List (CE CT Try.prog) := [rows_New_ce, rows_Put_ce, rows_In_ce, rows_Take_ce, watershedkit_SameLines_ce, rows_Many_ce]
noncomputable def watershedlaw15_awake_lt : List (LE CT Try.prog) := []
noncomputable def watershedlaw15_awake  : Option ((Bool) × (Unit)) :=
  (rows_New).bind fun r1 =>
  (rows_Put ([(⟨([98] : List UInt8), ([49] : List UInt8)⟩ : DRow), (⟨([97] : List UInt8), ([50] : List UInt8)⟩ : DRow), (⟨([98] : List UInt8), ([51] : List UInt8)⟩ : DRow)] : List (DRow)) (r1.2.1.1, r1.2.1.2.1, ()) r1.2.2.1).bind fun r2 =>
  (rows_In (⟨([] : List UInt8), ([] : List UInt8)⟩ : DSpan) (r2.2.1.1, r2.2.1.2.1, ()) r2.2.2.2.1).bind fun r3 =>
  (rows_Take (⟨([97] : List UInt8), ([98] : List UInt8)⟩ : DSpan) (r3.2.1.1, r3.2.1.2.1, ()) r3.2.2.1).bind fun r4 =>
  (bif (decide ((r2.1 : Int) = 0)) then
  (watershedkit_SameLines r3.1 ([(⟨([97] : List UInt8), ([50] : List UInt8)⟩ : DRow), (⟨([98] : List UInt8), ([51] : List UInt8)⟩ : DRow)] : List (DRow))).bind fun r5 =>
  (bif r5.1 then
  (watershedkit_SameLines r4.1 ([(⟨([97] : List UInt8), ([50] : List UInt8)⟩ : DRow)] : List (DRow))).bind fun r6 =>
  (bif r6.1 then
  (rows_Many (r4.2.1.1, r4.2.1.2.1, ()) r4.2.2.2.2.1).bind fun r7 =>
  some ((decide ((r7.1 : Int) = 1)), ())
  else
  some (false, ()))
  else
  some (false, ()))
  else
  some (false, ()))
noncomputable def watershedlaw15_awake_ce : CE CT Try.prog where
  f := 6
  args := []
  hs := []
  res := .val (.one (.bool))
  outs := []
  m := fun d dh => watershedlaw15_awake
  ok := ce_ok mixedP Try.func6 (by kernel_rfl) (orcOf_ok watershedlaw15_awake_tb) (dr := watershedlaw15_awake_dr) (lps := lpsOf watershedlaw15_awake_lt) (lps_fn (no_loop (by kernel_rfl))) (fun d dh => by kernel_rfl)

def watershedkit_LinesOf_dr : Nat → DrA
  | 5 => ⟨[0, 1, 2, 3, 4, 5, 10, 11, 12, 13, 6, 7, 8, 9, 14, 15, 16, 17, 18], [[], [0], [], [], [2, 3], [2, 3, 4], [2, 3, 4, 5], [2, 3, 4, 5, 6], [2, 3, 4, 5, 6, 7], [0, 1, 2, 3, 4, 5, 6, 7, 8], [], [], [10, 11], [10, 11, 12], [10, 11, 12, 13], [10, 11, 12, 13, 14], [10, 11, 12, 13, 14, 15], [0, 1, 2, 3, 4, 5, 6, 7, 8, 9, 10, 11, 12, 13, 14, 15, 16], [0, 1, 2, 3, 4, 5, 6, 7, 8, 9, 10, 11, 12, 13, 14, 15, 16, 17]], [], [], [], false, []⟩
  | _ => ⟨[], [], [], [], [], false, []⟩
noncomputable def watershedkit_LinesOf_tb : List (CE CT Try.prog) := []
noncomputable def watershedkit_LinesOf_l1 (a : ((List (DRow)) × (Int) × (Int) × (Int) × Unit) × (Unit)) : Option ((((List (DRow)) × (Int) × (Int) × (Int) × Unit) × (Unit)) ⊕ ((((Int) × Unit) × (Unit)))) :=
  (bif (decide ((a.1.2.2.2.1 : Int) < (a.1.1.length : Int))) then
  (bif (decide ((a.1.2.2.1 : Int) ≤ a.1.2.1)) then
  (getI a.1.1 a.1.2.2.2.1).bind fun e1 =>
  (getI a.1.1 a.1.2.2.2.1).bind fun e2 =>
  let y3 : Int := (IntKind.i64.wrap ((IntKind.i64.wrap ((IntKind.i64.wrap (a.1.2.2.1 + 1)) + (IntKind.i64.wrap (((e1.key.length : Int) : Int).tdiv 8)))) + (IntKind.i64.wrap (((e2.value.length : Int) : Int).tdiv 8))))
  some (.inl ((a.1.1, a.1.2.1, y3, (IntKind.i64.wrap (a.1.2.2.2.1 + 1)), ()), ()))
  else
  some (.inr ((a.1.2.2.1, ()), ())))
  else
  some (.inr ((a.1.2.2.1, ()), ())))
noncomputable def watershedkit_LinesOf_e1 : LE CT Try.prog := ⟨3, [0, 1, 5, 6], [.one (.sl 3), .one (.int .i64), .one (.int .i64), .one (.int .i64)], [], [⟨.exit 0, [5], [.one (.int .i64)], []⟩], watershedkit_LinesOf_l1⟩
noncomputable def watershedkit_LinesOf_lt : List (LE CT Try.prog) := [watershedkit_LinesOf_e1]
theorem watershedkit_LinesOf_e1_ok : LeOk watershedkit_LinesOf_e1 (nthL (bodyOf Try.f7) 0) := fun A env h k z hk => le_ok (E := watershedkit_LinesOf_e1) (orcOf_ok watershedkit_LinesOf_tb) (dr := watershedkit_LinesOf_dr) (lps := lpsOf watershedkit_LinesOf_lt) (no_loop (by kernel_rfl)) (fun a => by kernel_rfl) env h k z hk
noncomputable def watershedkit_LinesOf (x0 : List (DRow)) (x1 : Int) : Option ((Int) × (Unit)) :=
  (loopM watershedkit_LinesOf_l1 ((x0, x1, 0, 0, ()), ())).bind fun b1 =>
  some (b1.1.1, ())
noncomputable def watershedkit_LinesOf_ce : CE CT Try.prog where
  f := 7
  args := [.one (.sl 3), .one (.int .i64)]
  hs := []
  res := .val (.one (.int .i64))
  outs := []
  m := fun d dh => watershedkit_LinesOf d.1 d.2.1
  ok := ce_ok mixedP Try.func7 (by kernel_rfl) (orcOf_ok watershedkit_LinesOf_tb) (dr := watershedkit_LinesOf_dr) (lps := lpsOf watershedkit_LinesOf_lt) (lps_fn (lps_of (n := 1) (by kernel_rfl) fun i hi => match i, hi with | 0, _ => lp_ok (E := watershedkit_LinesOf_e1) (by kernel_rfl) watershedkit_LinesOf_e1_ok)) (fun d dh => by kernel_rfl)

def span_All_dr : Nat → DrA
  | _ => ⟨[], [], [], [], [], false, []⟩
noncomputable def span_All_tb : List (CE CT Try.prog) := []
noncomputable def span_All_lt : List (LE CT Try.prog) := []
noncomputable def span_All  : Option ((DSpan) × (Unit)) :=
  some ((⟨([] : List UInt8), ([] : List UInt8)⟩ : DSpan), ())
noncomputable def span_All_ce : CE CT Try.prog where
  f := 12
  args := []
  hs := []
  res := .val (.cod 5)
  outs := []
  m := fun d dh => span_All
  ok := ce_ok mixedP Try.func12 (by kernel_rfl) (orcOf_ok span_All_tb) (dr := span_All_dr) (lps := lpsOf span_All_lt) (lps_fn (no_loop (by kernel_rfl))) (fun d dh => by kernel_rfl)
end Go.Proofs.Ytlmmpfbdgiokmaa
