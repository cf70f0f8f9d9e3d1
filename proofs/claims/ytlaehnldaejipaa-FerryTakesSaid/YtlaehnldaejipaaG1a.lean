/- Models, by program. -/
import Derived.Test.YtlaehnldaejipaaOi
import Derived.Test.YtlaehnldaejipaaOb
import Derived.Test.YtlaehnldaejipaaOa
import Derived.Test.YtlaehnldaejipaaTw
import Derived.Test.YtlaehnldaejipaaFx
import Derived.Test.YtlaehnldaejipaaCl
namespace Go.Proofs.Ytlaehnldaejipaa
open Go.RowKit
set_option maxRecDepth 100000
set_option linter.unusedVariables false
noncomputable def watershedkit_OverInts_v (n : Nat) (xs : List (Int)) : Option (Unit × (List (Int) × Unit)) := if n ≤ 1000000 then some ((), ([], ())) else none
noncomputable def watershedkit_OverInts_v_ce : CE CT Try.prog where
  f := 69
  args := [.one (.asz 0 0)]
  hs := [.arr 3 0 true]
  res := .tup []
  outs := [.arr 3 0 true]
  m := fun d dh => watershedkit_OverInts_v d.1 dh.1
  ok := fun d dh r hr => by
    unfold watershedkit_OverInts_v at hr
    split at hr
    · rename_i hn
      injection hr with hr
      subst hr
      exact Tr.overA (S := 10) rfl (fun _ => ⟨rfl, fun zs => ⟨zs, rfl⟩⟩) (fun _ => ⟨rfl, fun zs => ⟨zs, rfl⟩⟩) (fun c h1 h2 h3 => by
        obtain ⟨ys, hy⟩ := watershedkit_OverInts_all d.1 c h1 h2 hn
        exact ⟨ys, watershedkit_OverInts_ce.ok ((0, d.1, c), ()) ([], ()) _ hy⟩)
    · cases hr

noncomputable def watershedkit_OverBytes_v (n : Nat) (xs : List (UInt8)) : Option (Unit × (List (UInt8) × Unit)) := if n ≤ 1000000 then some ((), ([], ())) else none
noncomputable def watershedkit_OverBytes_v_ce : CE CT Try.prog where
  f := 42
  args := [.one (.asz 1 0)]
  hs := [.arr 5 1 true]
  res := .tup []
  outs := [.arr 5 1 true]
  m := fun d dh => watershedkit_OverBytes_v d.1 dh.1
  ok := fun d dh r hr => by
    unfold watershedkit_OverBytes_v at hr
    split at hr
    · rename_i hn
      injection hr with hr
      subst hr
      exact Tr.overA (S := 11) rfl (fun _ => ⟨rfl, fun zs => ⟨zs, rfl⟩⟩) (fun _ => ⟨rfl, fun zs => ⟨zs, rfl⟩⟩) (fun c h1 h2 h3 => by
        obtain ⟨ys, hy⟩ := watershedkit_OverBytes_all d.1 c h1 h2 hn
        exact ⟨ys, watershedkit_OverBytes_ce.ok ((0, d.1, c), ()) ([], ()) _ hy⟩)
    · cases hr

def watershedlaw13_plain_dr : Nat → Nat → DrA
  | _, _ => ⟨[], [], [], [], [], false, []⟩
noncomputable def watershedlaw13_plain_tb : List (CE CT Try.prog) := []
noncomputable def watershedlaw13_plain_l1 (a : ((Int) × (Unit) × (Unit) × (Int) × Unit) × (((Int) × (Int) × (List (Int)) × (List (Int)) × (List (Int)) × (List (Int)) × (List (UInt8)) × Unit) × ((Int) × (Int) × (List (Int)) × (List (Int)) × (List (Int)) × (List (Int)) × (List (UInt8)) × Unit) × (Unit) × (Unit) × (Unit) × (Unit) × (Unit) × (Unit) × (Unit) × (Unit) × (Unit) × (Unit) × Unit)) : Option ((((Int) × (Unit) × (Unit) × (Int) × Unit) × (((Int) × (Int) × (List (Int)) × (List (Int)) × (List (Int)) × (List (Int)) × (List (UInt8)) × Unit) × ((Int) × (Int) × (List (Int)) × (List (Int)) × (List (Int)) × (List (Int)) × (List (UInt8)) × Unit) × (Unit) × (Unit) × (Unit) × (Unit) × (Unit) × (Unit) × (Unit) × (Unit) × (Unit) × (Unit) × Unit)) ⊕ ((((Unit) × (Unit) × Unit) × (((Int) × (Int) × (List (Int)) × (List (Int)) × (List (Int)) × (List (Int)) × (List (UInt8)) × Unit) × ((Int) × (Int) × (List (Int)) × (List (Int)) × (List (Int)) × (List (Int)) × (List (UInt8)) × Unit) × (Unit) × (Unit) × (Unit) × (Unit) × (Unit) × (Unit) × (Unit) × (Unit) × (Unit) × (Unit) × (Unit) × (Unit) × (Unit) × (Unit) × (Unit) × (Unit) × (Unit) × (Unit) × (Unit) × (Unit) × Unit)))) :=
  (bif (decide ((a.1.2.2.2.1 : Int) < a.1.1)) then
  (b8 (IntKind.u8.wrap (IntKind.i64.wrap (a.1.2.2.2.1 * 7)))).bind fun u1 =>
  (if a.2.2.1.2.2.2.2.2.2.1.length + ([u1] : List (UInt8)).length ≤ 140737488355328 ∧ (a.2.2.1.2.2.2.2.2.2.1.length + ([u1] : List (UInt8)).length) * 1 ≤ 140737488355328 then
  some (.inl ((a.1.1, (), (), (IntKind.i64.wrap (a.1.2.2.2.1 + 1)), ()), ((a.2.1.1, a.2.1.2.1, a.2.1.2.2.1, a.2.1.2.2.2.1, a.2.1.2.2.2.2.1, a.2.1.2.2.2.2.2.1, a.2.1.2.2.2.2.2.2.1, ()), (a.2.2.1.1, a.2.2.1.2.1, a.2.2.1.2.2.1, a.2.2.1.2.2.2.1, a.2.2.1.2.2.2.2.1, a.2.2.1.2.2.2.2.2.1, (a.2.2.1.2.2.2.2.2.2.1 ++ ([u1] : List (UInt8))), ()), (), (), (), (), (), (), (), (), (), (), ())))
  else none)
  else
  some (.inr (((), (), ()), ((a.2.1.1, a.2.1.2.1, a.2.1.2.2.1, a.2.1.2.2.2.1, a.2.1.2.2.2.2.1, a.2.1.2.2.2.2.2.1, a.2.1.2.2.2.2.2.2.1, ()), (a.2.2.1.1, a.2.2.1.2.1, a.2.2.1.2.2.1, a.2.2.1.2.2.2.1, a.2.2.1.2.2.2.2.1, a.2.2.1.2.2.2.2.2.1, a.2.2.1.2.2.2.2.2.2.1, ()), (), (), (), (), (), (), (), (), (), (), (), (), (), (), (), (), (), (), (), (), ()))))
noncomputable def watershedlaw13_plain_e1 : LE CT Try.prog := ⟨3, [0, 2, 3, 4], [.one (.int .i64), .one (.ptr 0 0), .one (.ptr 1 0), .one (.int .i64)], [.obj 33 [.int .i64, .int .i64, .own 0 2, .own 0 3, .own 0 4, .own 0 5, .own 1 6], .obj 33 [.int .i64, .int .i64, .own 0 7, .own 0 8, .own 0 9, .own 0 10, .own 1 11], .row 3 1, .row 3 1, .row 3 1, .row 3 1, .row 5 1, .row 3 1, .row 3 1, .row 3 1, .row 3 1, .row 5 1], [⟨.exit 0, [2, 3], [.one (.ptr 0 0), .one (.ptr 1 0)], [.obj 33 [.int .i64, .int .i64, .own 0 12, .own 0 13, .own 0 14, .own 0 15, .own 1 16], .obj 33 [.int .i64, .int .i64, .own 0 17, .own 0 18, .own 0 19, .own 0 20, .own 1 21], .dead, .dead, .dead, .dead, .dead, .dead, .dead, .dead, .dead, .dead, .row 3 1, .row 3 1, .row 3 1, .row 3 1, .row 5 1, .row 3 1, .row 3 1, .row 3 1, .row 3 1, .row 5 1]⟩], watershedlaw13_plain_l1⟩
noncomputable def watershedlaw13_plain_lt : List (LE CT Try.prog) := [watershedlaw13_plain_e1]
theorem watershedlaw13_plain_e1_ok : LeOk watershedlaw13_plain_e1 (nthL (bodyOf Try.f26) 0) := fun A env h k z hk => le_ok (E := watershedlaw13_plain_e1) (orcOf_ok watershedlaw13_plain_tb) (dr := watershedlaw13_plain_dr) (lps := lpsOf watershedlaw13_plain_lt) (no_loop (by kernel_rfl)) (fun a => by kernel_rfl) env h k z hk
noncomputable def watershedlaw13_plain (x0 : Int) : Option ((DImage) × (Unit)) :=
  (loopM watershedlaw13_plain_l1 ((x0, (), (), 0, ()), ((0, 0, [], [], [], [], [], ()), (3, 2, [], [], [], [], [], ()), (), (), (), (), (), (), (), (), (), (), ()))).bind fun b1 =>
  some ((⟨(⟨b1.2.2.1.1, b1.2.2.1.2.1, (⟨b1.2.2.1.2.2.1, b1.2.2.1.2.2.2.1, b1.2.2.1.2.2.2.2.1, b1.2.2.1.2.2.2.2.2.1⟩ : DConfig)⟩ : DBase), b1.2.2.1.2.2.2.2.2.2.1⟩ : DImage), ())
noncomputable def watershedlaw13_plain_ce : CE CT Try.prog where
  f := 26
  args := [.one (.int .i64)]
  hs := []
  res := .val (.cod 20)
  outs := []
  m := fun d dh => watershedlaw13_plain d.1
  ok := ce_ok mixedP Try.func26 (by kernel_rfl) (orcOf_ok watershedlaw13_plain_tb) (dr := watershedlaw13_plain_dr) (lps := lpsOf watershedlaw13_plain_lt) (lps_fn (lps_of (n := 1) (by kernel_rfl) fun i hi => match i, hi with | 0, _ => lp_ok (E := watershedlaw13_plain_e1) (by kernel_rfl) watershedlaw13_plain_e1_ok)) (fun d dh => by kernel_rfl)

def watershedlaw13_asks_dr : Nat → Nat → DrA
  | _, _ => ⟨[], [], [], [], [], false, []⟩
noncomputable def watershedlaw13_asks_tb : List (CE CT Try.prog) := []
noncomputable def watershedlaw13_asks_lt : List (LE CT Try.prog) := []
noncomputable def watershedlaw13_asks (x0 : DImage) (x1 : Int) : Option ((DLetter) × (Unit)) :=
  some ((⟨5, 0, 1, 2, 4, 0, 0, 0, false, [], x0.base, 0, x1, 0, []⟩ : DLetter), ())
noncomputable def watershedlaw13_asks_ce : CE CT Try.prog where
  f := 27
  args := [.cod 20, .one (.int .i64)]
  hs := []
  res := .val (.cod 19)
  outs := []
  m := fun d dh => watershedlaw13_asks d.1 d.2.1
  ok := ce_ok mixedP Try.func27 (by kernel_rfl) (orcOf_ok watershedlaw13_asks_tb) (dr := watershedlaw13_asks_dr) (lps := lpsOf watershedlaw13_asks_lt) (lps_fn (no_loop (by kernel_rfl))) (fun d dh => by kernel_rfl)

noncomputable def cloneE54 (x0 : List (Int)) : Option (Nat × (List (Int) × Unit)) :=
  if x0.length ≤ 140737488355328 ∧ x0.length * 8 ≤ 140737488355328 then some (x0.length, (x0, ())) else none
noncomputable def cloneE54_ce : CE CT Try.prog where
  f := 54
  args := [.one (.sl 0)]
  hs := []
  res := .val (.one (.asz 0 0))
  outs := [.arr 3 0 false]
  m := fun d dh => cloneE54 d.1
  ok := fun d dh r hr => by
    unfold cloneE54 at hr
    split at hr
    · rename_i hc
      injection hr with hr
      subst hr
      have hroom := hc
      exact Tr.kp0 (cloneE_tr mixedP Try.func54 (by kernel_rfl) rfl rfl (zv := .int .i64 0) (he := by kernel_rfl) (hsz := by kernel_rfl) (hz := by kernel_rfl) (hby := by kernel_rfl) rfl rfl (zt := (0 : Int)) d.1 (by kernel_rfl) hroom)
    · cases hr

def ferry_own_dr : Nat → Nat → DrA
  | 2, _ => ⟨[0, 3, 6, 9, 1, 4, 7, 10, 2, 5, 8, 11, 12, 13, 14], [[], [0], [0, 1], [], [3], [0, 1, 2, 3, 4], [], [6], [0, 1, 2, 3, 4, 5, 6, 7], [], [9], [0, 1, 2, 3, 4, 5, 6, 7, 8, 9, 10], [0, 1, 2, 3, 4, 5, 6, 7, 8, 9, 10, 11], [0, 1, 2, 3, 4, 5, 6, 7, 8, 9, 10, 11, 12], [0, 1, 2, 3, 4, 5, 6, 7, 8, 9, 10, 11, 12, 13]], [4, 7, 10], [2, 5, 8], [2], false, []⟩
  | _, _ => ⟨[], [], [], [], [], false, []⟩
noncomputable def ferry_own_tb : List (CE CT Try.prog) := [cloneE54_ce]
noncomputable def ferry_own_lt : List (LE CT Try.prog) := []
noncomputable def ferry_own (x0 : DBase) : Option (((Int) × (Int) × (Nat) × (Nat) × (Nat) × (Nat) × Unit) × ((List (Int)) × (List (Int)) × (List (Int)) × (List (Int)) × Unit)) :=
  (cloneE54 x0.config.voters).bind fun r1 =>
  (cloneE54 x0.config.old).bind fun r2 =>
  (cloneE54 x0.config.learners).bind fun r3 =>
  (cloneE54 x0.config.want).bind fun r4 =>
  some ((x0.index, x0.term_, r1.1, r2.1, r3.1, r4.1, ()), (r1.2.1, r2.2.1, r3.2.1, r4.2.1, ()))
noncomputable def ferry_own_ce : CE CT Try.prog where
  f := 33
  args := [.cod 18]
  hs := []
  res := .val (.agg [.int .i64, .int .i64, .asz 0 0, .asz 0 1, .asz 0 2, .asz 0 3])
  outs := [.arr 3 0 false, .arr 3 0 false, .arr 3 0 false, .arr 3 0 false]
  m := fun d dh => ferry_own d.1
  ok := ce_ok mixedP Try.func33 (by kernel_rfl) (orcOf_ok ferry_own_tb) (dr := ferry_own_dr) (lps := lpsOf ferry_own_lt) (lps_fn (no_loop (by kernel_rfl))) (fun d dh => by kernel_rfl)

noncomputable def cloneE34 (x0 : List (UInt8)) : Option (Nat × (List (UInt8) × Unit)) :=
  if x0.length ≤ 140737488355328 ∧ x0.length * 1 ≤ 140737488355328 then some (x0.length, (x0, ())) else none
noncomputable def cloneE34_ce : CE CT Try.prog where
  f := 34
  args := [.one (.sl 1)]
  hs := []
  res := .val (.one (.asz 1 0))
  outs := [.arr 5 1 false]
  m := fun d dh => cloneE34 d.1
  ok := fun d dh r hr => by
    unfold cloneE34 at hr
    split at hr
    · rename_i hc
      injection hr with hr
      subst hr
      have hroom := hc
      exact Tr.kp0 (cloneE_tr mixedP Try.func34 (by kernel_rfl) rfl rfl (zv := .int .u8 0) (he := by kernel_rfl) (hsz := by kernel_rfl) (hz := by kernel_rfl) (hby := by kernel_rfl) rfl rfl (zt := (0 : UInt8)) d.1 (by kernel_rfl) hroom)
    · cases hr

def ferry_Fill_dr : Nat → Nat → DrA
  | 3, _ => ⟨[0, 3, 1, 4, 5, 2, 6, 7, 8, 9], [[], [0], [0, 1], [], [3], [3, 4], [0, 1, 2], [0, 1, 2, 6], [0, 1, 2, 3, 4, 5, 6, 7], [0, 1, 2, 3, 4, 5, 6, 7, 8]], [4], [2, 7], [1], false, []⟩
  | _, _ => ⟨[], [], [], [], [], false, []⟩
noncomputable def ferry_Fill_tb : List (CE CT Try.prog) := [ferry_own_ce, cloneE34_ce]
noncomputable def ferry_Fill_lt : List (LE CT Try.prog) := []
noncomputable def ferry_Fill (x0 : DLetter) (x1 : DImage) : Option ((((Int) × (Int) × (Int) × (Int) × (Int) × (Int) × (Int) × (Int) × (Bool) × (Unit) × (Int) × (Int) × (Nat) × (Nat) × (Nat) × (Nat) × (Int) × (Int) × (Int) × (Nat) × Unit) × (Bool) × Unit) × ((List (Int)) × (List (Int)) × (List (Int)) × (List (Int)) × (List (UInt8)) × Unit)) :=
  (bif (decide ((x0.kind : Int) ≠ 5)) then
  some (((0, 0, 0, 0, 0, 0, 0, 0, false, (), 0, 0, 0, 0, 0, 0, 0, 0, 0, 0, ()), false, ()), ([], [], [], [], [], ()))
  else
  (bif (decide ((x0.base.index : Int) ≠ x1.base.index)) then
  some (((0, 0, 0, 0, 0, 0, 0, 0, false, (), 0, 0, 0, 0, 0, 0, 0, 0, 0, 0, ()), false, ()), ([], [], [], [], [], ()))
  else
  (bif (decide ((x0.base.term_ : Int) ≠ x1.base.term_)) then
  some (((0, 0, 0, 0, 0, 0, 0, 0, false, (), 0, 0, 0, 0, 0, 0, 0, 0, 0, 0, ()), false, ()), ([], [], [], [], [], ()))
  else
  (bif (decide ((x0.at_ : Int) < 0)) then
  some (((0, 0, 0, 0, 0, 0, 0, 0, false, (), 0, 0, 0, 0, 0, 0, 0, 0, 0, 0, ()), false, ()), ([], [], [], [], [], ()))
  else
  (bif (decide (((x1.bytes.length : Int) : Int) < x0.at_)) then
  some (((0, 0, 0, 0, 0, 0, 0, 0, false, (), 0, 0, 0, 0, 0, 0, 0, 0, 0, 0, ()), false, ()), ([], [], [], [], [], ()))
  else
  (ferry_own x1.base).bind fun r1 =>
  let y2 : Int := (if ((x1.bytes.length : Int) : Int) < (IntKind.i64.wrap (x0.at_ + 600)) then (x1.bytes.length : Int) else (IntKind.i64.wrap (x0.at_ + 600)))
  (if 0 ≤ (x0.at_ : Int) ∧ (x0.at_ : Int) ≤ y2 ∧ y2 ≤ (x1.bytes.length : Int) then
  let y3 : List (UInt8) := ((x1.bytes.drop (x0.at_ : Int).toNat).take ((y2 : Int).toNat - (x0.at_ : Int).toNat))
  (cloneE34 y3).bind fun r4 =>
  some (((x0.kind, x0.group, x0.from_, x0.to_, x0.term_, x0.index, x0.logTerm, x0.commit, x0.ok, (), r1.1.1, r1.1.2.1, r1.1.2.2.1, r1.1.2.2.2.1, r1.1.2.2.2.2.1, r1.1.2.2.2.2.2.1, (x1.bytes.length : Int), x0.at_, x0.tag, r4.1, ()), true, ()), (r1.2.1, r1.2.2.1, r1.2.2.2.1, r1.2.2.2.2.1, r4.2.1, ()))
  else none))))))
noncomputable def ferry_Fill_ce : CE CT Try.prog where
  f := 12
  args := [.cod 19, .cod 20]
  hs := []
  res := .tup [.agg [.int .u8, .int .i64, .int .i64, .int .i64, .int .i64, .int .i64, .int .i64, .int .i64, .bool, .nil, .int .i64, .int .i64, .asz 0 0, .asz 0 1, .asz 0 2, .asz 0 3, .int .i64, .int .i64, .int .i64, .asz 1 4], .one (.bool)]
  outs := [.arr 3 0 false, .arr 3 0 false, .arr 3 0 false, .arr 3 0 false, .arr 5 1 false]
  m := fun d dh => ferry_Fill d.1 d.2.1
  ok := ce_ok mixedP Try.func12 (by kernel_rfl) (orcOf_ok ferry_Fill_tb) (dr := ferry_Fill_dr) (lps := lpsOf ferry_Fill_lt) (lps_fn (no_loop (by kernel_rfl))) (fun d dh => by kernel_rfl)

def ferry_New_dr : Nat → Nat → DrA
  | _, _ => ⟨[], [], [], [], [], false, []⟩
noncomputable def ferry_New_tb : List (CE CT Try.prog) := []
noncomputable def ferry_New_lt : List (LE CT Try.prog) := []
noncomputable def ferry_New  : Option ((Unit) × (((Int) × (Int) × (Int) × (Int) × (Bool) × (Bool) × (Nat) × Unit) × (List (UInt8)) × Unit)) :=
  some ((), ((0, 0, 0, 0, true, false, 0, ()), [], ()))
noncomputable def ferry_New_ce : CE CT Try.prog where
  f := 18
  args := []
  hs := []
  res := .val (.one (.ptr 0 0))
  outs := [.obj 56 [.int .i64, .int .i64, .int .i64, .int .i64, .bool, .bool, .asz 1 1], .arr 5 1 false]
  m := fun d dh => ferry_New
  ok := ce_ok mixedP Try.func18 (by kernel_rfl) (orcOf_ok ferry_New_tb) (dr := ferry_New_dr) (lps := lpsOf ferry_New_lt) (lps_fn (no_loop (by kernel_rfl))) (fun d dh => by kernel_rfl)

def ferry_right_dr : Nat → Nat → DrA
  | _, _ => ⟨[], [], [], [], [], false, []⟩
noncomputable def ferry_right_tb : List (CE CT Try.prog) := []
noncomputable def ferry_right_lt : List (LE CT Try.prog) := []
noncomputable def ferry_right (x0 : (Int) × (Int) × (Int) × (Int) × (Int) × (Int) × (Int) × (Int) × (Bool) × (Unit) × (Int) × (Int) × (Nat) × (Nat) × (Nat) × (Nat) × (Int) × (Int) × (Int) × (Nat) × Unit) (h0 : List (Int)) (h1 : List (Int)) (h2 : List (Int)) (h3 : List (Int)) (h4 : List (UInt8)) : Option ((Bool) × ((List (Int)) × (List (Int)) × (List (Int)) × (List (Int)) × (List (UInt8)) × Unit)) :=
  (bif (decide ((x0.1 : Int) = 5)) then
  (bif (decide ((0 : Int) ≤ x0.2.2.2.2.2.2.2.2.2.2.2.2.2.2.2.2.1)) then
  (bif (decide ((x0.2.2.2.2.2.2.2.2.2.2.2.2.2.2.2.2.1 : Int) ≤ 131072)) then
  (bif (decide ((0 : Int) ≤ x0.2.2.2.2.2.2.2.2.2.2.2.2.2.2.2.2.2.1)) then
  (bif (decide ((x0.2.2.2.2.2.2.2.2.2.2.2.2.2.2.2.2.2.1 : Int) ≤ x0.2.2.2.2.2.2.2.2.2.2.2.2.2.2.2.2.1)) then
  let y1 : Bool := (decide ((((x0.2.2.2.2.2.2.2.2.2.2.2.2.2.2.2.2.2.2.2.1 : Nat) : Int) : Int) ≤ (IntKind.i64.wrap (x0.2.2.2.2.2.2.2.2.2.2.2.2.2.2.2.2.1 - x0.2.2.2.2.2.2.2.2.2.2.2.2.2.2.2.2.2.1))))
  some (y1, (h0, h1, h2, h3, h4, ()))
  else
  some (false, (h0, h1, h2, h3, h4, ())))
  else
  some (false, (h0, h1, h2, h3, h4, ())))
  else
  some (false, (h0, h1, h2, h3, h4, ())))
  else
  some (false, (h0, h1, h2, h3, h4, ())))
  else
  some (false, (h0, h1, h2, h3, h4, ())))
noncomputable def ferry_right_ce : CE CT Try.prog where
  f := 46
  args := [.agg [.int .u8, .int .i64, .int .i64, .int .i64, .int .i64, .int .i64, .int .i64, .int .i64, .bool, .nil, .int .i64, .int .i64, .asz 0 0, .asz 0 1, .asz 0 2, .asz 0 3, .int .i64, .int .i64, .int .i64, .asz 1 4]]
  hs := [.arr 3 0 true, .arr 3 0 true, .arr 3 0 true, .arr 3 0 true, .arr 5 1 true]
  res := .val (.one (.bool))
  outs := [.arr 3 0 true, .arr 3 0 true, .arr 3 0 true, .arr 3 0 true, .arr 5 1 true]
  m := fun d dh => ferry_right d.1 dh.1 dh.2.1 dh.2.2.1 dh.2.2.2.1 dh.2.2.2.2.1
  ok := ce_ok mixedP Try.func46 (by kernel_rfl) (orcOf_ok ferry_right_tb) (dr := ferry_right_dr) (lps := lpsOf ferry_right_lt) (lps_fn (no_loop (by kernel_rfl))) (fun d dh => by kernel_rfl)

def ferry_Drop_dr : Nat → Nat → DrA
  | _, _ => ⟨[], [], [], [], [], false, []⟩
noncomputable def ferry_Drop_tb : List (CE CT Try.prog) := []
noncomputable def ferry_Drop_lt : List (LE CT Try.prog) := []
noncomputable def ferry_Drop (h0 : (Int) × (Int) × (Int) × (Int) × (Bool) × (Bool) × (Unit) × Unit) : Option ((Unit) × (((Int) × (Int) × (Int) × (Int) × (Bool) × (Bool) × (Nat) × Unit) × (List (UInt8)) × Unit)) :=
  (bif h0.2.2.2.2.1 then
  some ((), ((0, 0, 0, 0, true, false, 0, ()), [], ()))
  else
  none)
noncomputable def ferry_Drop_ce : CE CT Try.prog where
  f := 20
  args := [.one (.ptr 0 0)]
  hs := [.obj 56 [.int .i64, .int .i64, .int .i64, .int .i64, .bool, .bool, .junk]]
  res := .tup []
  outs := [.obj 56 [.int .i64, .int .i64, .int .i64, .int .i64, .bool, .bool, .asz 1 1], .arr 5 1 false]
  m := fun d dh => ferry_Drop dh.1
  ok := ce_ok mixedP Try.func20 (by kernel_rfl) (orcOf_ok ferry_Drop_tb) (dr := ferry_Drop_dr) (lps := lpsOf ferry_Drop_lt) (lps_fn (no_loop (by kernel_rfl))) (fun d dh => by kernel_rfl)

def ferry_of_dr : Nat → Nat → DrA
  | _, _ => ⟨[], [], [], [], [], false, []⟩
noncomputable def ferry_of_tb : List (CE CT Try.prog) := []
noncomputable def ferry_of_lt : List (LE CT Try.prog) := []
noncomputable def ferry_of (x0 : (Int) × (Int) × (Int) × (Int) × (Int) × (Int) × (Int) × (Int) × (Bool) × (Unit) × (Int) × (Int) × (Nat) × (Nat) × (Nat) × (Nat) × (Int) × (Int) × (Int) × (Nat) × Unit) (h0 : List (Int)) (h1 : List (Int)) (h2 : List (Int)) (h3 : List (Int)) (h4 : List (UInt8)) : Option ((DCrossing) × ((List (Int)) × (List (Int)) × (List (Int)) × (List (Int)) × (List (UInt8)) × Unit)) :=
  some ((⟨x0.2.2.2.2.1, x0.2.2.2.2.2.2.2.2.2.2.1, x0.2.2.2.2.2.2.2.2.2.2.2.1, x0.2.2.2.2.2.2.2.2.2.2.2.2.2.2.2.2.1⟩ : DCrossing), (h0, h1, h2, h3, h4, ()))
noncomputable def ferry_of_ce : CE CT Try.prog where
  f := 47
  args := [.agg [.int .u8, .int .i64, .int .i64, .int .i64, .int .i64, .int .i64, .int .i64, .int .i64, .bool, .nil, .int .i64, .int .i64, .asz 0 0, .asz 0 1, .asz 0 2, .asz 0 3, .int .i64, .int .i64, .int .i64, .asz 1 4]]
  hs := [.arr 3 0 true, .arr 3 0 true, .arr 3 0 true, .arr 3 0 true, .arr 5 1 true]
  res := .val (.cod 21)
  outs := [.arr 3 0 true, .arr 3 0 true, .arr 3 0 true, .arr 3 0 true, .arr 5 1 true]
  m := fun d dh => ferry_of d.1 dh.1 dh.2.1 dh.2.2.1 dh.2.2.2.1 dh.2.2.2.2.1
  ok := ce_ok mixedP Try.func47 (by kernel_rfl) (orcOf_ok ferry_of_tb) (dr := ferry_of_dr) (lps := lpsOf ferry_of_lt) (lps_fn (no_loop (by kernel_rfl))) (fun d dh => by kernel_rfl)

def ferry_lay_dr : Nat → Nat → DrA
  | _, _ => ⟨[], [], [], [], [], false, []⟩
noncomputable def ferry_lay_tb : List (CE CT Try.prog) := []
noncomputable def ferry_lay_lt : List (LE CT Try.prog) := []
noncomputable def ferry_lay (x1 : Nat × Nat) (h0 : (Int) × (Int) × (Int) × (Int) × (Bool) × (Bool) × (Nat) × Unit) (h1 : List (UInt8)) (h2 : List (UInt8)) : Option ((Unit) × (((Int) × (Int) × (Int) × (Int) × (Bool) × (Bool) × (Nat) × Unit) × (List (UInt8)) × (Unit) × (List (UInt8)) × Unit)) :=
  (if x1.1 + x1.2 ≤ h1.length then
  (if (h0.2.2.2.2.2.2.1 + ((h1.drop x1.1).take x1.2).length) ≤ 140737488355328 ∧ (h0.2.2.2.2.2.2.1 + ((h1.drop x1.1).take x1.2).length) * 1 ≤ 140737488355328 ∧ 0 + h0.2.2.2.2.2.2.1 ≤ h2.length then
  some ((), ((h0.1, h0.2.1, h0.2.2.1, h0.2.2.2.1, h0.2.2.2.2.1, h0.2.2.2.2.2.1, (h0.2.2.2.2.2.2.1 + ((h1.drop x1.1).take x1.2).length), ()), h1, (), (h2.take h0.2.2.2.2.2.2.1 ++ ((h1.drop x1.1).take x1.2)), ()))
  else none)
  else none)
noncomputable def ferry_lay_ce : CE CT Try.prog where
  f := 48
  args := [.one (.ptr 0 0), .one (.asu 1 1)]
  hs := [.obj 56 [.int .i64, .int .i64, .int .i64, .int .i64, .bool, .bool, .asz 1 2], .arr 5 1 true, .arr 5 1 false]
  res := .tup []
  outs := [.obj 56 [.int .i64, .int .i64, .int .i64, .int .i64, .bool, .bool, .asz 1 3], .arr 5 1 true, .dead, .arr 5 1 false]
  m := fun d dh => ferry_lay d.2.1 dh.1 dh.2.1 dh.2.2.1
  ok := ce_ok mixedP Try.func48 (by kernel_rfl) (orcOf_ok ferry_lay_tb) (dr := ferry_lay_dr) (lps := lpsOf ferry_lay_lt) (lps_fn (no_loop (by kernel_rfl))) (fun d dh => by kernel_rfl)

noncomputable def cloneEz54 (x0 : Nat) (h0 : List (Int)) : Option (Nat × (List (Int) × List (Int) × Unit)) :=
  if x0 ≤ h0.length ∧ (h0.take x0).length ≤ 140737488355328 ∧ (h0.take x0).length * 8 ≤ 140737488355328 then some ((h0.take x0).length, (h0, (h0.take x0), ())) else none
noncomputable def cloneEz54_ce : CE CT Try.prog where
  f := 54
  args := [.one (.asz 0 0)]
  hs := [.arr 3 0 true]
  res := .val (.one (.asz 0 1))
  outs := [.arr 3 0 true, .arr 3 0 false]
  m := fun d dh => cloneEz54 d.1 dh.1
  ok := fun d dh r hr => by
    unfold cloneEz54 at hr
    split at hr
    · rename_i hc
      injection hr with hr
      subst hr
      have hroom := hc.2
      exact Tr.lendArr (fun x => rfl) (U0 := fun _ => True) (Tr.kp0 (cloneE_tr mixedP Try.func54 (by kernel_rfl) rfl rfl (zv := .int .i64 0) (he := by kernel_rfl) (hsz := by kernel_rfl) (hz := by kernel_rfl) (hby := by kernel_rfl) rfl rfl (zt := (0 : Int)) (dh.1.take d.1) (by kernel_rfl) hroom)) (lend_as (Nat.le_trans (Nat.le_of_eq (Nat.zero_add _)) hc.1)) rfl
    · cases hr

def ferry_own_2_dr : Nat → Nat → DrA
  | 2, _ => ⟨[0, 3, 6, 9, 1, 4, 7, 10, 2, 5, 8, 11, 12, 13, 14], [[], [0], [0, 1], [], [3], [0, 1, 2, 3, 4], [], [6], [0, 1, 2, 3, 4, 5, 6, 7], [], [9], [0, 1, 2, 3, 4, 5, 6, 7, 8, 9, 10], [0, 1, 2, 3, 4, 5, 6, 7, 8, 9, 10, 11], [0, 1, 2, 3, 4, 5, 6, 7, 8, 9, 10, 11, 12], [0, 1, 2, 3, 4, 5, 6, 7, 8, 9, 10, 11, 12, 13]], [4, 7, 10], [2, 5, 8], [6], false, []⟩
  | _, _ => ⟨[], [], [], [], [], false, []⟩
noncomputable def ferry_own_2_tb : List (CE CT Try.prog) := [cloneEz54_ce]
noncomputable def ferry_own_2_lt : List (LE CT Try.prog) := []
noncomputable def ferry_own_2 (x0 : (Int) × (Int) × (Nat) × (Nat) × (Nat) × (Nat) × Unit) (h0 : List (Int)) (h1 : List (Int)) (h2 : List (Int)) (h3 : List (Int)) : Option (((Int) × (Int) × (Nat) × (Nat) × (Nat) × (Nat) × Unit) × ((List (Int)) × (List (Int)) × (List (Int)) × (List (Int)) × (List (Int)) × (List (Int)) × (List (Int)) × (List (Int)) × Unit)) :=
  (cloneEz54 x0.2.2.1 h0).bind fun r1 =>
  (cloneEz54 x0.2.2.2.1 h1).bind fun r2 =>
  (cloneEz54 x0.2.2.2.2.1 h2).bind fun r3 =>
  (cloneEz54 x0.2.2.2.2.2.1 h3).bind fun r4 =>
  some ((x0.1, x0.2.1, r1.1, r2.1, r3.1, r4.1, ()), (r1.2.1, r2.2.1, r3.2.1, r4.2.1, r1.2.2.1, r2.2.2.1, r3.2.2.1, r4.2.2.1, ()))
noncomputable def ferry_own_2_ce : CE CT Try.prog where
  f := 33
  args := [.agg [.int .i64, .int .i64, .asz 0 0, .asz 0 1, .asz 0 2, .asz 0 3]]
  hs := [.arr 3 0 true, .arr 3 0 true, .arr 3 0 true, .arr 3 0 true]
  res := .val (.agg [.int .i64, .int .i64, .asz 0 4, .asz 0 5, .asz 0 6, .asz 0 7])
  outs := [.arr 3 0 true, .arr 3 0 true, .arr 3 0 true, .arr 3 0 true, .arr 3 0 false, .arr 3 0 false, .arr 3 0 false, .arr 3 0 false]
  m := fun d dh => ferry_own_2 d.1 dh.1 dh.2.1 dh.2.2.1 dh.2.2.2.1
  ok := ce_ok mixedP Try.func33 (by kernel_rfl) (orcOf_ok ferry_own_2_tb) (dr := ferry_own_2_dr) (lps := lpsOf ferry_own_2_lt) (lps_fn (no_loop (by kernel_rfl))) (fun d dh => by kernel_rfl)

def ferry_Take_dr : Nat → Nat → DrA
  | 2, _ => ⟨[1, 2, 0, 3], [[], [], [1], [0, 1, 2]], [], [], [], false, []⟩
  | 3, _ => ⟨[0, 1, 2, 3, 4, 5, 6, 7, 8, 9, 10, 11, 12, 13], [[], [0], [0, 1], [0, 1, 2], [0, 1, 2, 3], [0, 1, 2, 3, 4], [0, 1, 2, 3, 4, 5], [0, 1, 2, 3, 4, 5, 6], [0, 1, 2, 3, 4, 5, 6, 7], [0, 1, 2, 3, 4, 5, 6, 7, 8], [0, 1, 2, 3, 4, 5], [0, 1, 2, 3, 4, 5, 10], [0, 1, 2, 3, 4, 5, 6, 7, 8, 9, 10, 11], [0, 1, 2, 3, 4, 5, 6, 7, 8, 9, 10, 11, 12]], [9], [11], [0], false, []⟩
  | 5, _ => ⟨[1, 2, 0, 3], [[], [], [1], [0, 1, 2]], [], [], [], false, []⟩
  | 8, _ => ⟨[0, 2, 3, 4, 1, 5, 6, 7], [[], [0], [], [2], [2, 3], [2, 3, 4], [2, 3, 4, 5], [0, 1, 2, 3, 4, 5, 6]], [], [], [], false, []⟩
  | 9, _ => ⟨[0, 1, 3, 4, 5, 8, 11, 2, 6, 7, 9, 10, 12, 13, 14, 15, 16], [[], [], [1], [], [3], [3, 4], [3, 4, 5], [3, 4, 5, 6], [], [8], [3, 4, 5, 6, 7, 8, 9], [], [11], [11, 12], [3, 4, 5, 6, 7, 8, 9, 10, 11, 12, 13], [1, 2, 3, 4, 5, 6, 7, 8, 9, 10, 11, 12, 13, 14], [0, 1, 2, 3, 4, 5, 6, 7, 8, 9, 10, 11, 12, 13, 14, 15]], [], [], [], false, []⟩
  | 12, _ => ⟨[0, 2, 3, 1, 4], [[], [], [0], [0, 2], [0, 1, 2, 3]], [], [], [], false, []⟩
  | 13, _ => ⟨[0, 3, 4, 5, 1, 6, 2, 7, 8], [[], [0], [0, 1], [], [3], [3, 4], [3, 4, 5], [0, 1, 2, 3, 4, 5, 6], [0, 1, 2, 3, 4, 5, 6, 7]], [6], [2], [0], false, []⟩
  | 15, _ => ⟨[0, 2, 3, 1, 4], [[], [], [0], [0, 2], [0, 1, 2, 3]], [], [], [], false, []⟩
  | _, _ => ⟨[], [], [], [], [], false, []⟩
noncomputable def ferry_Take_tb : List (CE CT Try.prog) := [ferry_right_ce, ferry_Drop_ce, ferry_of_ce, ferry_lay_ce, ferry_own_2_ce]
noncomputable def ferry_Take_lt : List (LE CT Try.prog) := []
noncomputable def ferry_Take (x1 : (Int) × (Int) × (Int) × (Int) × (Int) × (Int) × (Int) × (Int) × (Bool) × (Unit) × (Int) × (Int) × (Nat) × (Nat) × (Nat) × (Nat) × (Int) × (Int) × (Int) × (Nat) × Unit) (h0 : (Int) × (Int) × (Int) × (Int) × (Bool) × (Bool) × (Nat) × Unit) (h1 : List (Int)) (h2 : List (Int)) (h3 : List (Int)) (h4 : List (Int)) (h5 : List (UInt8)) (h6 : List (UInt8)) : Option (((Int) × (Bool) × ((Int) × (Int) × (Nat) × (Nat) × (Nat) × (Nat) × (Nat) × Unit) × Unit) × (((Int) × (Int) × (Int) × (Int) × (Bool) × (Bool) × (Nat) × Unit) × (List (Int)) × (List (Int)) × (List (Int)) × (List (Int)) × (List (UInt8)) × (Unit) × (List (Int)) × (List (Int)) × (List (Int)) × (List (Int)) × (List (UInt8)) × (List (UInt8)) × Unit)) :=
  (bif (!h0.2.2.2.2.1) then
  some ((0, false, (0, 0, 0, 0, 0, 0, 0, ()), ()), ((h0.1, h0.2.1, h0.2.2.1, h0.2.2.2.1, h0.2.2.2.2.1, h0.2.2.2.2.2.1, h0.2.2.2.2.2.2.1, ()), h1, h2, h3, h4, h5, (), [], [], [], [], [], h6, ()))
  else
  (ferry_right (x1.1, x1.2.1, x1.2.2.1, x1.2.2.2.1, x1.2.2.2.2.1, x1.2.2.2.2.2.1, x1.2.2.2.2.2.2.1, x1.2.2.2.2.2.2.2.1, x1.2.2.2.2.2.2.2.2.1, (), x1.2.2.2.2.2.2.2.2.2.2.1, x1.2.2.2.2.2.2.2.2.2.2.2.1, x1.2.2.2.2.2.2.2.2.2.2.2.2.1, x1.2.2.2.2.2.2.2.2.2.2.2.2.2.1, x1.2.2.2.2.2.2.2.2.2.2.2.2.2.2.1, x1.2.2.2.2.2.2.2.2.2.2.2.2.2.2.2.1, x1.2.2.2.2.2.2.2.2.2.2.2.2.2.2.2.2.1, x1.2.2.2.2.2.2.2.2.2.2.2.2.2.2.2.2.2.1, x1.2.2.2.2.2.2.2.2.2.2.2.2.2.2.2.2.2.2.1, x1.2.2.2.2.2.2.2.2.2.2.2.2.2.2.2.2.2.2.2.1, ()) h1 h2 h3 h4 h5).bind fun r1 =>
  (bif (!r1.1) then
  some ((0, false, (0, 0, 0, 0, 0, 0, 0, ()), ()), ((h0.1, h0.2.1, h0.2.2.1, h0.2.2.2.1, h0.2.2.2.2.1, h0.2.2.2.2.2.1, h0.2.2.2.2.2.2.1, ()), r1.2.1, r1.2.2.1, r1.2.2.2.1, r1.2.2.2.2.1, r1.2.2.2.2.2.1, (), [], [], [], [], [], h6, ()))
  else
  (bif (!h0.2.2.2.2.2.1) then
  (bif (decide ((x1.2.2.2.2.2.2.2.2.2.2.2.2.2.2.2.2.2.1 : Int) ≠ 0)) then
  some ((0, false, (0, 0, 0, 0, 0, 0, 0, ()), ()), ((h0.1, h0.2.1, h0.2.2.1, h0.2.2.2.1, h0.2.2.2.2.1, h0.2.2.2.2.2.1, h0.2.2.2.2.2.2.1, ()), r1.2.1, r1.2.2.1, r1.2.2.2.1, r1.2.2.2.2.1, r1.2.2.2.2.2.1, (), [], [], [], [], [], h6, ()))
  else
  (ferry_Drop (h0.1, h0.2.1, h0.2.2.1, h0.2.2.2.1, h0.2.2.2.2.1, h0.2.2.2.2.2.1, (), ())).bind fun r2 =>
  (ferry_of (x1.1, x1.2.1, x1.2.2.1, x1.2.2.2.1, x1.2.2.2.2.1, x1.2.2.2.2.2.1, x1.2.2.2.2.2.2.1, x1.2.2.2.2.2.2.2.1, x1.2.2.2.2.2.2.2.2.1, (), x1.2.2.2.2.2.2.2.2.2.2.1, x1.2.2.2.2.2.2.2.2.2.2.2.1, x1.2.2.2.2.2.2.2.2.2.2.2.2.1, x1.2.2.2.2.2.2.2.2.2.2.2.2.2.1, x1.2.2.2.2.2.2.2.2.2.2.2.2.2.2.1, x1.2.2.2.2.2.2.2.2.2.2.2.2.2.2.2.1, x1.2.2.2.2.2.2.2.2.2.2.2.2.2.2.2.2.1, x1.2.2.2.2.2.2.2.2.2.2.2.2.2.2.2.2.2.1, x1.2.2.2.2.2.2.2.2.2.2.2.2.2.2.2.2.2.2.1, x1.2.2.2.2.2.2.2.2.2.2.2.2.2.2.2.2.2.2.2.1, ()) r1.2.1 r1.2.2.1 r1.2.2.2.1 r1.2.2.2.2.1 r1.2.2.2.2.2.1).bind fun r3 =>
  (bif (decide ((x1.2.2.2.2.2.2.2.2.2.2.2.2.2.2.2.2.2.1 : Int) ≤ ((r2.2.1.2.2.2.2.2.2.1 : Nat) : Int))) then
  let y4 : Int := (if (((x1.2.2.2.2.2.2.2.2.2.2.2.2.2.2.2.2.2.2.2.1 : Nat) : Int) : Int) < (IntKind.i64.wrap (((r2.2.1.2.2.2.2.2.2.1 : Nat) : Int) - x1.2.2.2.2.2.2.2.2.2.2.2.2.2.2.2.2.2.1)) then ((x1.2.2.2.2.2.2.2.2.2.2.2.2.2.2.2.2.2.2.2.1 : Nat) : Int) else (IntKind.i64.wrap (((r2.2.1.2.2.2.2.2.2.1 : Nat) : Int) - x1.2.2.2.2.2.2.2.2.2.2.2.2.2.2.2.2.2.1)))
  (if 0 ≤ ((y4 : Int) : Int) ∧ ((y4 : Int) : Int) ≤ ((x1.2.2.2.2.2.2.2.2.2.2.2.2.2.2.2.2.2.2.2.1 : Nat) : Int) ∧ ((x1.2.2.2.2.2.2.2.2.2.2.2.2.2.2.2.2.2.2.2.1 : Nat) : Int) ≤ ((x1.2.2.2.2.2.2.2.2.2.2.2.2.2.2.2.2.2.2.2.1 : Nat) : Int) ∧ ((x1.2.2.2.2.2.2.2.2.2.2.2.2.2.2.2.2.2.2.2.1 : Nat) : Int) ≤ 140737488355328 then
  (ferry_lay ((0 + (y4 : Int).toNat), (((x1.2.2.2.2.2.2.2.2.2.2.2.2.2.2.2.2.2.2.2.1 : Nat) : Int).toNat - (y4 : Int).toNat)) (r3.1.term_, r3.1.index, r3.1.base, r3.1.size, r2.2.1.2.2.2.2.1, true, r2.2.1.2.2.2.2.2.2.1, ()) r3.2.2.2.2.2.1 r2.2.2.1).bind fun r5 =>
  (bif (decide ((((r5.2.1.2.2.2.2.2.2.1 : Nat) : Int) : Int) < r5.2.1.2.2.2.1)) then
  some ((((r5.2.1.2.2.2.2.2.2.1 : Nat) : Int), false, (0, 0, 0, 0, 0, 0, 0, ()), ()), ((r5.2.1.1, r5.2.1.2.1, r5.2.1.2.2.1, r5.2.1.2.2.2.1, r5.2.1.2.2.2.2.1, r5.2.1.2.2.2.2.2.1, r5.2.1.2.2.2.2.2.2.1, ()), r3.2.1, r3.2.2.1, r3.2.2.2.1, r3.2.2.2.2.1, r5.2.2.1, (), [], [], [], [], [], r5.2.2.2.2.1, ()))
  else
  (ferry_own_2 (x1.2.2.2.2.2.2.2.2.2.2.1, x1.2.2.2.2.2.2.2.2.2.2.2.1, x1.2.2.2.2.2.2.2.2.2.2.2.2.1, x1.2.2.2.2.2.2.2.2.2.2.2.2.2.1, x1.2.2.2.2.2.2.2.2.2.2.2.2.2.2.1, x1.2.2.2.2.2.2.2.2.2.2.2.2.2.2.2.1, ()) r3.2.1 r3.2.2.1 r3.2.2.2.1 r3.2.2.2.2.1).bind fun r6 =>
  (ferry_Drop (r5.2.1.1, r5.2.1.2.1, r5.2.1.2.2.1, r5.2.1.2.2.2.1, r5.2.1.2.2.2.2.1, r5.2.1.2.2.2.2.2.1, (), ())).bind fun r7 =>
  some ((((r5.2.1.2.2.2.2.2.2.1 : Nat) : Int), true, (r6.1.1, r6.1.2.1, r6.1.2.2.1, r6.1.2.2.2.1, r6.1.2.2.2.2.1, r6.1.2.2.2.2.2.1, r5.2.1.2.2.2.2.2.2.1, ()), ()), ((r7.2.1.1, r7.2.1.2.1, r7.2.1.2.2.1, r7.2.1.2.2.2.1, r7.2.1.2.2.2.2.1, r7.2.1.2.2.2.2.2.1, r7.2.1.2.2.2.2.2.2.1, ()), r6.2.1, r6.2.2.1, r6.2.2.2.1, r6.2.2.2.2.1, r5.2.2.1, (), r6.2.2.2.2.2.1, r6.2.2.2.2.2.2.1, r6.2.2.2.2.2.2.2.1, r6.2.2.2.2.2.2.2.2.1, r5.2.2.2.2.1, r7.2.2.1, ())))
  else none)
  else
  (bif (decide ((((r2.2.1.2.2.2.2.2.2.1 : Nat) : Int) : Int) < r3.1.size)) then
  some ((((r2.2.1.2.2.2.2.2.2.1 : Nat) : Int), false, (0, 0, 0, 0, 0, 0, 0, ()), ()), ((r3.1.term_, r3.1.index, r3.1.base, r3.1.size, r2.2.1.2.2.2.2.1, true, r2.2.1.2.2.2.2.2.2.1, ()), r3.2.1, r3.2.2.1, r3.2.2.2.1, r3.2.2.2.2.1, r3.2.2.2.2.2.1, (), [], [], [], [], [], r2.2.2.1, ()))
  else
  (ferry_own_2 (x1.2.2.2.2.2.2.2.2.2.2.1, x1.2.2.2.2.2.2.2.2.2.2.2.1, x1.2.2.2.2.2.2.2.2.2.2.2.2.1, x1.2.2.2.2.2.2.2.2.2.2.2.2.2.1, x1.2.2.2.2.2.2.2.2.2.2.2.2.2.2.1, x1.2.2.2.2.2.2.2.2.2.2.2.2.2.2.2.1, ()) r3.2.1 r3.2.2.1 r3.2.2.2.1 r3.2.2.2.2.1).bind fun r8 =>
  (ferry_Drop (r3.1.term_, r3.1.index, r3.1.base, r3.1.size, r2.2.1.2.2.2.2.1, true, (), ())).bind fun r9 =>
  some ((((r2.2.1.2.2.2.2.2.2.1 : Nat) : Int), true, (r8.1.1, r8.1.2.1, r8.1.2.2.1, r8.1.2.2.2.1, r8.1.2.2.2.2.1, r8.1.2.2.2.2.2.1, r2.2.1.2.2.2.2.2.2.1, ()), ()), ((r9.2.1.1, r9.2.1.2.1, r9.2.1.2.2.1, r9.2.1.2.2.2.1, r9.2.1.2.2.2.2.1, r9.2.1.2.2.2.2.2.1, r9.2.1.2.2.2.2.2.2.1, ()), r8.2.1, r8.2.2.1, r8.2.2.2.1, r8.2.2.2.2.1, r3.2.2.2.2.2.1, (), r8.2.2.2.2.2.1, r8.2.2.2.2.2.2.1, r8.2.2.2.2.2.2.2.1, r8.2.2.2.2.2.2.2.2.1, r2.2.2.1, r9.2.2.1, ())))))
  else
  (ferry_of (x1.1, x1.2.1, x1.2.2.1, x1.2.2.2.1, x1.2.2.2.2.1, x1.2.2.2.2.2.1, x1.2.2.2.2.2.2.1, x1.2.2.2.2.2.2.2.1, x1.2.2.2.2.2.2.2.2.1, (), x1.2.2.2.2.2.2.2.2.2.2.1, x1.2.2.2.2.2.2.2.2.2.2.2.1, x1.2.2.2.2.2.2.2.2.2.2.2.2.1, x1.2.2.2.2.2.2.2.2.2.2.2.2.2.1, x1.2.2.2.2.2.2.2.2.2.2.2.2.2.2.1, x1.2.2.2.2.2.2.2.2.2.2.2.2.2.2.2.1, x1.2.2.2.2.2.2.2.2.2.2.2.2.2.2.2.2.1, x1.2.2.2.2.2.2.2.2.2.2.2.2.2.2.2.2.2.1, x1.2.2.2.2.2.2.2.2.2.2.2.2.2.2.2.2.2.2.1, x1.2.2.2.2.2.2.2.2.2.2.2.2.2.2.2.2.2.2.2.1, ()) r1.2.1 r1.2.2.1 r1.2.2.2.1 r1.2.2.2.2.1 r1.2.2.2.2.2.1).bind fun r10 =>
  (bif (!(decide ((h0.1 : Int) = r10.1.term_) && (decide ((h0.2.1 : Int) = r10.1.index) && (decide ((h0.2.2.1 : Int) = r10.1.base) && (decide ((h0.2.2.2.1 : Int) = r10.1.size) && true))))) then
  (bif (decide ((x1.2.2.2.2.2.2.2.2.2.2.2.2.2.2.2.2.2.1 : Int) ≠ 0)) then
  some ((0, false, (0, 0, 0, 0, 0, 0, 0, ()), ()), ((h0.1, h0.2.1, h0.2.2.1, h0.2.2.2.1, h0.2.2.2.2.1, h0.2.2.2.2.2.1, h0.2.2.2.2.2.2.1, ()), r10.2.1, r10.2.2.1, r10.2.2.2.1, r10.2.2.2.2.1, r10.2.2.2.2.2.1, (), [], [], [], [], [], h6, ()))
  else
  (ferry_Drop (h0.1, h0.2.1, h0.2.2.1, h0.2.2.2.1, h0.2.2.2.2.1, h0.2.2.2.2.2.1, (), ())).bind fun r11 =>
  (ferry_of (x1.1, x1.2.1, x1.2.2.1, x1.2.2.2.1, x1.2.2.2.2.1, x1.2.2.2.2.2.1, x1.2.2.2.2.2.2.1, x1.2.2.2.2.2.2.2.1, x1.2.2.2.2.2.2.2.2.1, (), x1.2.2.2.2.2.2.2.2.2.2.1, x1.2.2.2.2.2.2.2.2.2.2.2.1, x1.2.2.2.2.2.2.2.2.2.2.2.2.1, x1.2.2.2.2.2.2.2.2.2.2.2.2.2.1, x1.2.2.2.2.2.2.2.2.2.2.2.2.2.2.1, x1.2.2.2.2.2.2.2.2.2.2.2.2.2.2.2.1, x1.2.2.2.2.2.2.2.2.2.2.2.2.2.2.2.2.1, x1.2.2.2.2.2.2.2.2.2.2.2.2.2.2.2.2.2.1, x1.2.2.2.2.2.2.2.2.2.2.2.2.2.2.2.2.2.2.1, x1.2.2.2.2.2.2.2.2.2.2.2.2.2.2.2.2.2.2.2.1, ()) r10.2.1 r10.2.2.1 r10.2.2.2.1 r10.2.2.2.2.1 r10.2.2.2.2.2.1).bind fun r12 =>
  (bif (decide ((x1.2.2.2.2.2.2.2.2.2.2.2.2.2.2.2.2.2.1 : Int) ≤ ((r11.2.1.2.2.2.2.2.2.1 : Nat) : Int))) then
  let y13 : Int := (if (((x1.2.2.2.2.2.2.2.2.2.2.2.2.2.2.2.2.2.2.2.1 : Nat) : Int) : Int) < (IntKind.i64.wrap (((r11.2.1.2.2.2.2.2.2.1 : Nat) : Int) - x1.2.2.2.2.2.2.2.2.2.2.2.2.2.2.2.2.2.1)) then ((x1.2.2.2.2.2.2.2.2.2.2.2.2.2.2.2.2.2.2.2.1 : Nat) : Int) else (IntKind.i64.wrap (((r11.2.1.2.2.2.2.2.2.1 : Nat) : Int) - x1.2.2.2.2.2.2.2.2.2.2.2.2.2.2.2.2.2.1)))
  (if 0 ≤ ((y13 : Int) : Int) ∧ ((y13 : Int) : Int) ≤ ((x1.2.2.2.2.2.2.2.2.2.2.2.2.2.2.2.2.2.2.2.1 : Nat) : Int) ∧ ((x1.2.2.2.2.2.2.2.2.2.2.2.2.2.2.2.2.2.2.2.1 : Nat) : Int) ≤ ((x1.2.2.2.2.2.2.2.2.2.2.2.2.2.2.2.2.2.2.2.1 : Nat) : Int) ∧ ((x1.2.2.2.2.2.2.2.2.2.2.2.2.2.2.2.2.2.2.2.1 : Nat) : Int) ≤ 140737488355328 then
  (ferry_lay ((0 + (y13 : Int).toNat), (((x1.2.2.2.2.2.2.2.2.2.2.2.2.2.2.2.2.2.2.2.1 : Nat) : Int).toNat - (y13 : Int).toNat)) (r12.1.term_, r12.1.index, r12.1.base, r12.1.size, r11.2.1.2.2.2.2.1, true, r11.2.1.2.2.2.2.2.2.1, ()) r12.2.2.2.2.2.1 r11.2.2.1).bind fun r14 =>
  (bif (decide ((((r14.2.1.2.2.2.2.2.2.1 : Nat) : Int) : Int) < r14.2.1.2.2.2.1)) then
  some ((((r14.2.1.2.2.2.2.2.2.1 : Nat) : Int), false, (0, 0, 0, 0, 0, 0, 0, ()), ()), ((r14.2.1.1, r14.2.1.2.1, r14.2.1.2.2.1, r14.2.1.2.2.2.1, r14.2.1.2.2.2.2.1, r14.2.1.2.2.2.2.2.1, r14.2.1.2.2.2.2.2.2.1, ()), r12.2.1, r12.2.2.1, r12.2.2.2.1, r12.2.2.2.2.1, r14.2.2.1, (), [], [], [], [], [], r14.2.2.2.2.1, ()))
  else
  (ferry_own_2 (x1.2.2.2.2.2.2.2.2.2.2.1, x1.2.2.2.2.2.2.2.2.2.2.2.1, x1.2.2.2.2.2.2.2.2.2.2.2.2.1, x1.2.2.2.2.2.2.2.2.2.2.2.2.2.1, x1.2.2.2.2.2.2.2.2.2.2.2.2.2.2.1, x1.2.2.2.2.2.2.2.2.2.2.2.2.2.2.2.1, ()) r12.2.1 r12.2.2.1 r12.2.2.2.1 r12.2.2.2.2.1).bind fun r15 =>
  (ferry_Drop (r14.2.1.1, r14.2.1.2.1, r14.2.1.2.2.1, r14.2.1.2.2.2.1, r14.2.1.2.2.2.2.1, r14.2.1.2.2.2.2.2.1, (), ())).bind fun r16 =>
  some ((((r14.2.1.2.2.2.2.2.2.1 : Nat) : Int), true, (r15.1.1, r15.1.2.1, r15.1.2.2.1, r15.1.2.2.2.1, r15.1.2.2.2.2.1, r15.1.2.2.2.2.2.1, r14.2.1.2.2.2.2.2.2.1, ()), ()), ((r16.2.1.1, r16.2.1.2.1, r16.2.1.2.2.1, r16.2.1.2.2.2.1, r16.2.1.2.2.2.2.1, r16.2.1.2.2.2.2.2.1, r16.2.1.2.2.2.2.2.2.1, ()), r15.2.1, r15.2.2.1, r15.2.2.2.1, r15.2.2.2.2.1, r14.2.2.1, (), r15.2.2.2.2.2.1, r15.2.2.2.2.2.2.1, r15.2.2.2.2.2.2.2.1, r15.2.2.2.2.2.2.2.2.1, r14.2.2.2.2.1, r16.2.2.1, ())))
  else none)
  else
  (bif (decide ((((r11.2.1.2.2.2.2.2.2.1 : Nat) : Int) : Int) < r12.1.size)) then
  some ((((r11.2.1.2.2.2.2.2.2.1 : Nat) : Int), false, (0, 0, 0, 0, 0, 0, 0, ()), ()), ((r12.1.term_, r12.1.index, r12.1.base, r12.1.size, r11.2.1.2.2.2.2.1, true, r11.2.1.2.2.2.2.2.2.1, ()), r12.2.1, r12.2.2.1, r12.2.2.2.1, r12.2.2.2.2.1, r12.2.2.2.2.2.1, (), [], [], [], [], [], r11.2.2.1, ()))
  else
  (ferry_own_2 (x1.2.2.2.2.2.2.2.2.2.2.1, x1.2.2.2.2.2.2.2.2.2.2.2.1, x1.2.2.2.2.2.2.2.2.2.2.2.2.1, x1.2.2.2.2.2.2.2.2.2.2.2.2.2.1, x1.2.2.2.2.2.2.2.2.2.2.2.2.2.2.1, x1.2.2.2.2.2.2.2.2.2.2.2.2.2.2.2.1, ()) r12.2.1 r12.2.2.1 r12.2.2.2.1 r12.2.2.2.2.1).bind fun r17 =>
  (ferry_Drop (r12.1.term_, r12.1.index, r12.1.base, r12.1.size, r11.2.1.2.2.2.2.1, true, (), ())).bind fun r18 =>
  some ((((r11.2.1.2.2.2.2.2.2.1 : Nat) : Int), true, (r17.1.1, r17.1.2.1, r17.1.2.2.1, r17.1.2.2.2.1, r17.1.2.2.2.2.1, r17.1.2.2.2.2.2.1, r11.2.1.2.2.2.2.2.2.1, ()), ()), ((r18.2.1.1, r18.2.1.2.1, r18.2.1.2.2.1, r18.2.1.2.2.2.1, r18.2.1.2.2.2.2.1, r18.2.1.2.2.2.2.2.1, r18.2.1.2.2.2.2.2.2.1, ()), r17.2.1, r17.2.2.1, r17.2.2.2.1, r17.2.2.2.2.1, r12.2.2.2.2.2.1, (), r17.2.2.2.2.2.1, r17.2.2.2.2.2.2.1, r17.2.2.2.2.2.2.2.1, r17.2.2.2.2.2.2.2.2.1, r11.2.2.1, r18.2.2.1, ())))))
  else
  (bif (decide ((x1.2.2.2.2.2.2.2.2.2.2.2.2.2.2.2.2.2.1 : Int) ≤ ((h0.2.2.2.2.2.2.1 : Nat) : Int))) then
  let y19 : Int := (if (((x1.2.2.2.2.2.2.2.2.2.2.2.2.2.2.2.2.2.2.2.1 : Nat) : Int) : Int) < (IntKind.i64.wrap (((h0.2.2.2.2.2.2.1 : Nat) : Int) - x1.2.2.2.2.2.2.2.2.2.2.2.2.2.2.2.2.2.1)) then ((x1.2.2.2.2.2.2.2.2.2.2.2.2.2.2.2.2.2.2.2.1 : Nat) : Int) else (IntKind.i64.wrap (((h0.2.2.2.2.2.2.1 : Nat) : Int) - x1.2.2.2.2.2.2.2.2.2.2.2.2.2.2.2.2.2.1)))
  (if 0 ≤ ((y19 : Int) : Int) ∧ ((y19 : Int) : Int) ≤ ((x1.2.2.2.2.2.2.2.2.2.2.2.2.2.2.2.2.2.2.2.1 : Nat) : Int) ∧ ((x1.2.2.2.2.2.2.2.2.2.2.2.2.2.2.2.2.2.2.2.1 : Nat) : Int) ≤ ((x1.2.2.2.2.2.2.2.2.2.2.2.2.2.2.2.2.2.2.2.1 : Nat) : Int) ∧ ((x1.2.2.2.2.2.2.2.2.2.2.2.2.2.2.2.2.2.2.2.1 : Nat) : Int) ≤ 140737488355328 then
  (ferry_lay ((0 + (y19 : Int).toNat), (((x1.2.2.2.2.2.2.2.2.2.2.2.2.2.2.2.2.2.2.2.1 : Nat) : Int).toNat - (y19 : Int).toNat)) (h0.1, h0.2.1, h0.2.2.1, h0.2.2.2.1, h0.2.2.2.2.1, h0.2.2.2.2.2.1, h0.2.2.2.2.2.2.1, ()) r10.2.2.2.2.2.1 h6).bind fun r20 =>
  (bif (decide ((((r20.2.1.2.2.2.2.2.2.1 : Nat) : Int) : Int) < r20.2.1.2.2.2.1)) then
  some ((((r20.2.1.2.2.2.2.2.2.1 : Nat) : Int), false, (0, 0, 0, 0, 0, 0, 0, ()), ()), ((r20.2.1.1, r20.2.1.2.1, r20.2.1.2.2.1, r20.2.1.2.2.2.1, r20.2.1.2.2.2.2.1, r20.2.1.2.2.2.2.2.1, r20.2.1.2.2.2.2.2.2.1, ()), r10.2.1, r10.2.2.1, r10.2.2.2.1, r10.2.2.2.2.1, r20.2.2.1, (), [], [], [], [], [], r20.2.2.2.2.1, ()))
  else
  (ferry_own_2 (x1.2.2.2.2.2.2.2.2.2.2.1, x1.2.2.2.2.2.2.2.2.2.2.2.1, x1.2.2.2.2.2.2.2.2.2.2.2.2.1, x1.2.2.2.2.2.2.2.2.2.2.2.2.2.1, x1.2.2.2.2.2.2.2.2.2.2.2.2.2.2.1, x1.2.2.2.2.2.2.2.2.2.2.2.2.2.2.2.1, ()) r10.2.1 r10.2.2.1 r10.2.2.2.1 r10.2.2.2.2.1).bind fun r21 =>
  (ferry_Drop (r20.2.1.1, r20.2.1.2.1, r20.2.1.2.2.1, r20.2.1.2.2.2.1, r20.2.1.2.2.2.2.1, r20.2.1.2.2.2.2.2.1, (), ())).bind fun r22 =>
  some ((((r20.2.1.2.2.2.2.2.2.1 : Nat) : Int), true, (r21.1.1, r21.1.2.1, r21.1.2.2.1, r21.1.2.2.2.1, r21.1.2.2.2.2.1, r21.1.2.2.2.2.2.1, r20.2.1.2.2.2.2.2.2.1, ()), ()), ((r22.2.1.1, r22.2.1.2.1, r22.2.1.2.2.1, r22.2.1.2.2.2.1, r22.2.1.2.2.2.2.1, r22.2.1.2.2.2.2.2.1, r22.2.1.2.2.2.2.2.2.1, ()), r21.2.1, r21.2.2.1, r21.2.2.2.1, r21.2.2.2.2.1, r20.2.2.1, (), r21.2.2.2.2.2.1, r21.2.2.2.2.2.2.1, r21.2.2.2.2.2.2.2.1, r21.2.2.2.2.2.2.2.2.1, r20.2.2.2.2.1, r22.2.2.1, ())))
  else none)
  else
  (bif (decide ((((h0.2.2.2.2.2.2.1 : Nat) : Int) : Int) < h0.2.2.2.1)) then
  some ((((h0.2.2.2.2.2.2.1 : Nat) : Int), false, (0, 0, 0, 0, 0, 0, 0, ()), ()), ((h0.1, h0.2.1, h0.2.2.1, h0.2.2.2.1, h0.2.2.2.2.1, h0.2.2.2.2.2.1, h0.2.2.2.2.2.2.1, ()), r10.2.1, r10.2.2.1, r10.2.2.2.1, r10.2.2.2.2.1, r10.2.2.2.2.2.1, (), [], [], [], [], [], h6, ()))
  else
  (ferry_own_2 (x1.2.2.2.2.2.2.2.2.2.2.1, x1.2.2.2.2.2.2.2.2.2.2.2.1, x1.2.2.2.2.2.2.2.2.2.2.2.2.1, x1.2.2.2.2.2.2.2.2.2.2.2.2.2.1, x1.2.2.2.2.2.2.2.2.2.2.2.2.2.2.1, x1.2.2.2.2.2.2.2.2.2.2.2.2.2.2.2.1, ()) r10.2.1 r10.2.2.1 r10.2.2.2.1 r10.2.2.2.2.1).bind fun r23 =>
  (ferry_Drop (h0.1, h0.2.1, h0.2.2.1, h0.2.2.2.1, h0.2.2.2.2.1, h0.2.2.2.2.2.1, (), ())).bind fun r24 =>
  some ((((h0.2.2.2.2.2.2.1 : Nat) : Int), true, (r23.1.1, r23.1.2.1, r23.1.2.2.1, r23.1.2.2.2.1, r23.1.2.2.2.2.1, r23.1.2.2.2.2.2.1, h0.2.2.2.2.2.2.1, ()), ()), ((r24.2.1.1, r24.2.1.2.1, r24.2.1.2.2.1, r24.2.1.2.2.2.1, r24.2.1.2.2.2.2.1, r24.2.1.2.2.2.2.2.1, r24.2.1.2.2.2.2.2.2.1, ()), r23.2.1, r23.2.2.1, r23.2.2.2.1, r23.2.2.2.2.1, r10.2.2.2.2.2.1, (), r23.2.2.2.2.2.1, r23.2.2.2.2.2.2.1, r23.2.2.2.2.2.2.2.1, r23.2.2.2.2.2.2.2.2.1, h6, r24.2.2.1, ()))))))))
noncomputable def ferry_Take_ce : CE CT Try.prog where
  f := 22
  args := [.one (.ptr 0 0), .agg [.int .u8, .int .i64, .int .i64, .int .i64, .int .i64, .int .i64, .int .i64, .int .i64, .bool, .nil, .int .i64, .int .i64, .asz 0 1, .asz 0 2, .asz 0 3, .asz 0 4, .int .i64, .int .i64, .int .i64, .asz 1 5]]
  hs := [.obj 56 [.int .i64, .int .i64, .int .i64, .int .i64, .bool, .bool, .asz 1 6], .arr 3 0 true, .arr 3 0 true, .arr 3 0 true, .arr 3 0 true, .arr 5 1 true, .arr 5 1 false]
  res := .tup [.one (.int .i64), .one (.bool), .agg [.int .i64, .int .i64, .asz 0 7, .asz 0 8, .asz 0 9, .asz 0 10, .asz 1 11]]
  outs := [.obj 56 [.int .i64, .int .i64, .int .i64, .int .i64, .bool, .bool, .asz 1 12], .arr 3 0 true, .arr 3 0 true, .arr 3 0 true, .arr 3 0 true, .arr 5 1 true, .dead, .arr 3 0 false, .arr 3 0 false, .arr 3 0 false, .arr 3 0 false, .arr 5 1 false, .arr 5 1 false]
  m := fun d dh => ferry_Take d.2.1 dh.1 dh.2.1 dh.2.2.1 dh.2.2.2.1 dh.2.2.2.2.1 dh.2.2.2.2.2.1 dh.2.2.2.2.2.2.1
  ok := ce_ok mixedP Try.func22 (by kernel_rfl) (orcOf_ok ferry_Take_tb) (dr := ferry_Take_dr) (lps := lpsOf ferry_Take_lt) (lps_fn (no_loop (by kernel_rfl))) (fun d dh => by kernel_rfl)

def watershedkit_SameInts_dr : Nat → Nat → DrA
  | 6, _ => ⟨[0, 1, 2, 4, 5, 6, 3, 7, 8], [[], [], [0, 1], [0, 1, 2], [], [], [4, 5], [4, 5, 6], [0, 1, 2, 3, 4, 5, 6, 7]], [], [], [], false, []⟩
  | _, _ => ⟨[], [], [], [], [], false, []⟩
noncomputable def watershedkit_SameInts_tb : List (CE CT Try.prog) := []
noncomputable def watershedkit_SameInts_l1 (a : ((List (Int)) × (Nat) × (Int) × Unit) × ((List (Int)) × Unit)) : Option ((((List (Int)) × (Nat) × (Int) × Unit) × ((List (Int)) × Unit)) ⊕ ((((Bool) × Unit) × ((List (Int)) × Unit)) ⊕ ((Unit) × ((List (Int)) × Unit)))) :=
  (bif (decide ((a.1.2.2.1 : Int) < (a.1.1.length : Int))) then
  (getI a.1.1 a.1.2.2.1).bind fun e1 =>
  (if 0 ≤ (a.1.2.2.1 : Int) ∧ (a.1.2.2.1 : Int) < ((a.1.2.1 : Nat) : Int) then
  (a.2.1[(0 + (a.1.2.2.1 : Int).toNat)]?).bind fun e2 =>
  (bif (decide ((e1 : Int) ≠ e2)) then
  some (.inr (.inl ((false, ()), (a.2.1, ()))))
  else
  some (.inl ((a.1.1, a.1.2.1, (IntKind.i64.wrap (a.1.2.2.1 + 1)), ()), (a.2.1, ()))))
  else none)
  else
  some (.inr (.inr ((), (a.2.1, ())))))
noncomputable def watershedkit_SameInts_e1 : LE CT Try.prog := ⟨4, [0, 1, 5], [.one (.sl 0), .one (.asz 0 0), .one (.int .i64)], [.arr 3 0 true], [⟨.ret, [4], [.one (.bool)], [.arr 3 0 true]⟩, ⟨.exit 0, [], [], [.arr 3 0 true]⟩], watershedkit_SameInts_l1⟩
noncomputable def watershedkit_SameInts_lt : List (LE CT Try.prog) := [watershedkit_SameInts_e1]
theorem watershedkit_SameInts_e1_ok : LeOk watershedkit_SameInts_e1 (nthL (bodyOf Try.f68) 0) := fun A env h k z hk => le_ok (E := watershedkit_SameInts_e1) (orcOf_ok watershedkit_SameInts_tb) (dr := watershedkit_SameInts_dr) (lps := lpsOf watershedkit_SameInts_lt) (no_loop (by kernel_rfl)) (fun a => by kernel_rfl) env h k z hk
noncomputable def watershedkit_SameInts (x0 : List (Int)) (x1 : Nat) (h0 : List (Int)) : Option ((Bool) × ((List (Int)) × Unit)) :=
  (bif (decide (((x0.length : Int) : Int) ≠ ((x1 : Nat) : Int))) then
  some (false, (h0, ()))
  else
  (loopM watershedkit_SameInts_l1 ((x0, x1, 0, ()), (h0, ()))).bind fun b1 =>
  (match b1 with
  | .inl b2 =>
  some (b2.1.1, (b2.2.1, ()))
  | .inr b3 =>
  some (true, (b3.2.1, ()))))
noncomputable def watershedkit_SameInts_ce : CE CT Try.prog where
  f := 68
  args := [.one (.sl 0), .one (.asz 0 0)]
  hs := [.arr 3 0 true]
  res := .val (.one (.bool))
  outs := [.arr 3 0 true]
  m := fun d dh => watershedkit_SameInts d.1 d.2.1 dh.1
  ok := ce_ok mixedP Try.func68 (by kernel_rfl) (orcOf_ok watershedkit_SameInts_tb) (dr := watershedkit_SameInts_dr) (lps := lpsOf watershedkit_SameInts_lt) (lps_fn (lps_of (n := 1) (by kernel_rfl) fun i hi => match i, hi with | 0, _ => lp_ok (E := watershedkit_SameInts_e1) (by kernel_rfl) watershedkit_SameInts_e1_ok)) (fun d dh => by kernel_rfl)

def watershedkit_SameConfig_dr : Nat → Nat → DrA
  | _, _ => ⟨[], [], [], [], [], false, []⟩
noncomputable def watershedkit_SameConfig_tb : List (CE CT Try.prog) := [watershedkit_SameInts_ce]
noncomputable def watershedkit_SameConfig_lt : List (LE CT Try.prog) := []
noncomputable def watershedkit_SameConfig (x0 : DConfig) (x1 : (Nat) × (Nat) × (Nat) × (Nat) × Unit) (h0 : List (Int)) (h1 : List (Int)) (h2 : List (Int)) (h3 : List (Int)) : Option ((Bool) × ((List (Int)) × (List (Int)) × (List (Int)) × (List (Int)) × Unit)) :=
  (watershedkit_SameInts x0.voters x1.1 h0).bind fun r1 =>
  (bif r1.1 then
  (watershedkit_SameInts x0.old x1.2.1 h1).bind fun r2 =>
  (bif r2.1 then
  (watershedkit_SameInts x0.learners x1.2.2.1 h2).bind fun r3 =>
  (bif r3.1 then
  (watershedkit_SameInts x0.want x1.2.2.2.1 h3).bind fun r4 =>
  some (r4.1, (r1.2.1, r2.2.1, r3.2.1, r4.2.1, ()))
  else
  some (false, (r1.2.1, r2.2.1, r3.2.1, h3, ())))
  else
  some (false, (r1.2.1, r2.2.1, h2, h3, ())))
  else
  some (false, (r1.2.1, h1, h2, h3, ())))
noncomputable def watershedkit_SameConfig_ce : CE CT Try.prog where
  f := 59
  args := [.cod 15, .agg [.asz 0 0, .asz 0 1, .asz 0 2, .asz 0 3]]
  hs := [.arr 3 0 true, .arr 3 0 true, .arr 3 0 true, .arr 3 0 true]
  res := .val (.one (.bool))
  outs := [.arr 3 0 true, .arr 3 0 true, .arr 3 0 true, .arr 3 0 true]
  m := fun d dh => watershedkit_SameConfig d.1 d.2.1 dh.1 dh.2.1 dh.2.2.1 dh.2.2.2.1
  ok := ce_ok mixedP Try.func59 (by kernel_rfl) (orcOf_ok watershedkit_SameConfig_tb) (dr := watershedkit_SameConfig_dr) (lps := lpsOf watershedkit_SameConfig_lt) (lps_fn (no_loop (by kernel_rfl))) (fun d dh => by kernel_rfl)

def watershedkit_SameBase_dr : Nat → Nat → DrA
  | _, _ => ⟨[], [], [], [], [], false, []⟩
noncomputable def watershedkit_SameBase_tb : List (CE CT Try.prog) := [watershedkit_SameConfig_ce]
noncomputable def watershedkit_SameBase_lt : List (LE CT Try.prog) := []
noncomputable def watershedkit_SameBase (x0 : DBase) (x1 : (Int) × (Int) × (Nat) × (Nat) × (Nat) × (Nat) × Unit) (h0 : List (Int)) (h1 : List (Int)) (h2 : List (Int)) (h3 : List (Int)) : Option ((Bool) × ((List (Int)) × (List (Int)) × (List (Int)) × (List (Int)) × Unit)) :=
  (bif (decide ((x0.index : Int) = x1.1)) then
  (bif (decide ((x0.term_ : Int) = x1.2.1)) then
  (watershedkit_SameConfig x0.config (x1.2.2.1, x1.2.2.2.1, x1.2.2.2.2.1, x1.2.2.2.2.2.1, ()) h0 h1 h2 h3).bind fun r1 =>
  some (r1.1, (r1.2.1, r1.2.2.1, r1.2.2.2.1, r1.2.2.2.2.1, ()))
  else
  some (false, (h0, h1, h2, h3, ())))
  else
  some (false, (h0, h1, h2, h3, ())))
noncomputable def watershedkit_SameBase_ce : CE CT Try.prog where
  f := 38
  args := [.cod 18, .agg [.int .i64, .int .i64, .asz 0 0, .asz 0 1, .asz 0 2, .asz 0 3]]
  hs := [.arr 3 0 true, .arr 3 0 true, .arr 3 0 true, .arr 3 0 true]
  res := .val (.one (.bool))
  outs := [.arr 3 0 true, .arr 3 0 true, .arr 3 0 true, .arr 3 0 true]
  m := fun d dh => watershedkit_SameBase d.1 d.2.1 dh.1 dh.2.1 dh.2.2.1 dh.2.2.2.1
  ok := ce_ok mixedP Try.func38 (by kernel_rfl) (orcOf_ok watershedkit_SameBase_tb) (dr := watershedkit_SameBase_dr) (lps := lpsOf watershedkit_SameBase_lt) (lps_fn (no_loop (by kernel_rfl))) (fun d dh => by kernel_rfl)

def watershedkit_SameBytes_dr : Nat → Nat → DrA
  | 6, _ => ⟨[0, 1, 2, 4, 5, 6, 3, 7, 8], [[], [], [0, 1], [0, 1, 2], [], [], [4, 5], [4, 5, 6], [0, 1, 2, 3, 4, 5, 6, 7]], [], [], [], false, []⟩
  | _, _ => ⟨[], [], [], [], [], false, []⟩
noncomputable def watershedkit_SameBytes_tb : List (CE CT Try.prog) := []
noncomputable def watershedkit_SameBytes_l1 (a : ((List (UInt8)) × (Nat) × (Int) × Unit) × ((List (UInt8)) × Unit)) : Option ((((List (UInt8)) × (Nat) × (Int) × Unit) × ((List (UInt8)) × Unit)) ⊕ ((((Bool) × Unit) × ((List (UInt8)) × Unit)) ⊕ ((Unit) × ((List (UInt8)) × Unit)))) :=
  (bif (decide ((a.1.2.2.1 : Int) < (a.1.1.length : Int))) then
  (getI a.1.1 a.1.2.2.1).bind fun e1 =>
  (if 0 ≤ (a.1.2.2.1 : Int) ∧ (a.1.2.2.1 : Int) < ((a.1.2.1 : Nat) : Int) then
  (a.2.1[(0 + (a.1.2.2.1 : Int).toNat)]?).bind fun e2 =>
  (bif (decide (((e1.toNat : Int) : Int) ≠ (e2.toNat : Int))) then
  some (.inr (.inl ((false, ()), (a.2.1, ()))))
  else
  some (.inl ((a.1.1, a.1.2.1, (IntKind.i64.wrap (a.1.2.2.1 + 1)), ()), (a.2.1, ()))))
  else none)
  else
  some (.inr (.inr ((), (a.2.1, ())))))
noncomputable def watershedkit_SameBytes_e1 : LE CT Try.prog := ⟨4, [0, 1, 5], [.one (.sl 1), .one (.asz 1 0), .one (.int .i64)], [.arr 5 1 true], [⟨.ret, [4], [.one (.bool)], [.arr 5 1 true]⟩, ⟨.exit 0, [], [], [.arr 5 1 true]⟩], watershedkit_SameBytes_l1⟩
noncomputable def watershedkit_SameBytes_lt : List (LE CT Try.prog) := [watershedkit_SameBytes_e1]
theorem watershedkit_SameBytes_e1_ok : LeOk watershedkit_SameBytes_e1 (nthL (bodyOf Try.f39) 0) := fun A env h k z hk => le_ok (E := watershedkit_SameBytes_e1) (orcOf_ok watershedkit_SameBytes_tb) (dr := watershedkit_SameBytes_dr) (lps := lpsOf watershedkit_SameBytes_lt) (no_loop (by kernel_rfl)) (fun a => by kernel_rfl) env h k z hk
noncomputable def watershedkit_SameBytes (x0 : List (UInt8)) (x1 : Nat) (h0 : List (UInt8)) : Option ((Bool) × ((List (UInt8)) × Unit)) :=
  (bif (decide (((x0.length : Int) : Int) ≠ ((x1 : Nat) : Int))) then
  some (false, (h0, ()))
  else
  (loopM watershedkit_SameBytes_l1 ((x0, x1, 0, ()), (h0, ()))).bind fun b1 =>
  (match b1 with
  | .inl b2 =>
  some (b2.1.1, (b2.2.1, ()))
  | .inr b3 =>
  some (true, (b3.2.1, ()))))
noncomputable def watershedkit_SameBytes_ce : CE CT Try.prog where
  f := 39
  args := [.one (.sl 1), .one (.asz 1 0)]
  hs := [.arr 5 1 true]
  res := .val (.one (.bool))
  outs := [.arr 5 1 true]
  m := fun d dh => watershedkit_SameBytes d.1 d.2.1 dh.1
  ok := ce_ok mixedP Try.func39 (by kernel_rfl) (orcOf_ok watershedkit_SameBytes_tb) (dr := watershedkit_SameBytes_dr) (lps := lpsOf watershedkit_SameBytes_lt) (lps_fn (lps_of (n := 1) (by kernel_rfl) fun i hi => match i, hi with | 0, _ => lp_ok (E := watershedkit_SameBytes_e1) (by kernel_rfl) watershedkit_SameBytes_e1_ok)) (fun d dh => by kernel_rfl)

def watershedkit_SameImage_dr : Nat → Nat → DrA
  | _, _ => ⟨[], [], [], [], [], false, []⟩
noncomputable def watershedkit_SameImage_tb : List (CE CT Try.prog) := [watershedkit_SameBase_ce, watershedkit_SameBytes_ce]
noncomputable def watershedkit_SameImage_lt : List (LE CT Try.prog) := []
noncomputable def watershedkit_SameImage (x0 : DImage) (x1 : (Int) × (Int) × (Nat) × (Nat) × (Nat) × (Nat) × (Nat) × Unit) (h0 : List (Int)) (h1 : List (Int)) (h2 : List (Int)) (h3 : List (Int)) (h4 : List (UInt8)) : Option ((Bool) × ((List (Int)) × (List (Int)) × (List (Int)) × (List (Int)) × (List (UInt8)) × Unit)) :=
  (watershedkit_SameBase x0.base (x1.1, x1.2.1, x1.2.2.1, x1.2.2.2.1, x1.2.2.2.2.1, x1.2.2.2.2.2.1, ()) h0 h1 h2 h3).bind fun r1 =>
  (bif r1.1 then
  (watershedkit_SameBytes x0.bytes x1.2.2.2.2.2.2.1 h4).bind fun r2 =>
  some (r2.1, (r1.2.1, r1.2.2.1, r1.2.2.2.1, r1.2.2.2.2.1, r2.2.1, ()))
  else
  some (false, (r1.2.1, r1.2.2.1, r1.2.2.2.1, r1.2.2.2.2.1, h4, ())))
noncomputable def watershedkit_SameImage_ce : CE CT Try.prog where
  f := 24
  args := [.cod 20, .agg [.int .i64, .int .i64, .asz 0 0, .asz 0 1, .asz 0 2, .asz 0 3, .asz 1 4]]
  hs := [.arr 3 0 true, .arr 3 0 true, .arr 3 0 true, .arr 3 0 true, .arr 5 1 true]
  res := .val (.one (.bool))
  outs := [.arr 3 0 true, .arr 3 0 true, .arr 3 0 true, .arr 3 0 true, .arr 5 1 true]
  m := fun d dh => watershedkit_SameImage d.1 d.2.1 dh.1 dh.2.1 dh.2.2.1 dh.2.2.2.1 dh.2.2.2.2.1
  ok := ce_ok mixedP Try.func24 (by kernel_rfl) (orcOf_ok watershedkit_SameImage_tb) (dr := watershedkit_SameImage_dr) (lps := lpsOf watershedkit_SameImage_lt) (lps_fn (no_loop (by kernel_rfl))) (fun d dh => by kernel_rfl)

def watershedlaw13_awake_dr : Nat → Nat → DrA
  | 2, _ => ⟨[0, 2, 1, 3, 4, 5, 6, 7, 8, 9], [[], [0], [], [0, 1, 2], [0, 1, 2, 3], [0, 1, 2, 3, 4], [0, 1, 2, 3, 4], [], [0, 1, 2, 3, 4, 5, 7], [0, 1, 2, 3, 4, 5, 6, 7, 8]], [2], [1], [0], false, []⟩
  | 3, _ => ⟨[0, 2, 1, 3, 4, 5, 6, 7, 8, 9], [[], [0], [], [0, 1, 2], [0, 1, 2, 3], [0, 1, 2, 3, 4], [0, 1, 2, 3, 4], [], [0, 1, 2, 3, 4, 5, 7], [0, 1, 2, 3, 4, 5, 6, 7, 8]], [2], [1], [0], false, []⟩
  | _, _ => ⟨[], [], [], [], [], false, []⟩
noncomputable def watershedlaw13_awake_tb : List (CE CT Try.prog) := [watershedlaw13_plain_ce, watershedlaw13_asks_ce, ferry_Fill_ce, ferry_New_ce, ferry_Take_ce, watershedkit_SameImage_ce]
noncomputable def watershedlaw13_awake_lt : List (LE CT Try.prog) := []
noncomputable def watershedlaw13_awake  : Option ((Bool) × (Unit)) :=
  (watershedlaw13_plain 1000).bind fun r1 =>
  (watershedlaw13_asks r1.1 0).bind fun r2 =>
  (ferry_Fill r2.1 r1.1).bind fun r3 =>
  (watershedlaw13_asks r1.1 600).bind fun r4 =>
  (ferry_Fill r4.1 r1.1).bind fun r5 =>
  (ferry_New).bind fun r6 =>
  (ferry_Take (r3.1.1.1, r3.1.1.2.1, r3.1.1.2.2.1, r3.1.1.2.2.2.1, r3.1.1.2.2.2.2.1, r3.1.1.2.2.2.2.2.1, r3.1.1.2.2.2.2.2.2.1, r3.1.1.2.2.2.2.2.2.2.1, r3.1.1.2.2.2.2.2.2.2.2.1, (), r3.1.1.2.2.2.2.2.2.2.2.2.2.1, r3.1.1.2.2.2.2.2.2.2.2.2.2.2.1, r3.1.1.2.2.2.2.2.2.2.2.2.2.2.2.1, r3.1.1.2.2.2.2.2.2.2.2.2.2.2.2.2.1, r3.1.1.2.2.2.2.2.2.2.2.2.2.2.2.2.2.1, r3.1.1.2.2.2.2.2.2.2.2.2.2.2.2.2.2.2.1, r3.1.1.2.2.2.2.2.2.2.2.2.2.2.2.2.2.2.2.1, r3.1.1.2.2.2.2.2.2.2.2.2.2.2.2.2.2.2.2.2.1, r3.1.1.2.2.2.2.2.2.2.2.2.2.2.2.2.2.2.2.2.2.1, r3.1.1.2.2.2.2.2.2.2.2.2.2.2.2.2.2.2.2.2.2.2.1, ()) (r6.2.1.1, r6.2.1.2.1, r6.2.1.2.2.1, r6.2.1.2.2.2.1, r6.2.1.2.2.2.2.1, r6.2.1.2.2.2.2.2.1, r6.2.1.2.2.2.2.2.2.1, ()) r3.2.1 r3.2.2.1 r3.2.2.2.1 r3.2.2.2.2.1 r3.2.2.2.2.2.1 r6.2.2.1).bind fun r7 =>
  (ferry_Take (r5.1.1.1, r5.1.1.2.1, r5.1.1.2.2.1, r5.1.1.2.2.2.1, r5.1.1.2.2.2.2.1, r5.1.1.2.2.2.2.2.1, r5.1.1.2.2.2.2.2.2.1, r5.1.1.2.2.2.2.2.2.2.1, r5.1.1.2.2.2.2.2.2.2.2.1, (), r5.1.1.2.2.2.2.2.2.2.2.2.2.1, r5.1.1.2.2.2.2.2.2.2.2.2.2.2.1, r5.1.1.2.2.2.2.2.2.2.2.2.2.2.2.1, r5.1.1.2.2.2.2.2.2.2.2.2.2.2.2.2.1, r5.1.1.2.2.2.2.2.2.2.2.2.2.2.2.2.2.1, r5.1.1.2.2.2.2.2.2.2.2.2.2.2.2.2.2.2.1, r5.1.1.2.2.2.2.2.2.2.2.2.2.2.2.2.2.2.2.1, r5.1.1.2.2.2.2.2.2.2.2.2.2.2.2.2.2.2.2.2.1, r5.1.1.2.2.2.2.2.2.2.2.2.2.2.2.2.2.2.2.2.2.1, r5.1.1.2.2.2.2.2.2.2.2.2.2.2.2.2.2.2.2.2.2.2.1, ()) (r7.2.1.1, r7.2.1.2.1, r7.2.1.2.2.1, r7.2.1.2.2.2.1, r7.2.1.2.2.2.2.1, r7.2.1.2.2.2.2.2.1, r7.2.1.2.2.2.2.2.2.1, ()) r5.2.1 r5.2.2.1 r5.2.2.2.1 r5.2.2.2.2.1 r5.2.2.2.2.2.1 r7.2.2.2.2.2.2.2.2.2.2.2.2.2.1).bind fun r8 =>
  (bif r3.1.2.1 then
  (bif r5.1.2.1 then
  (bif (decide ((((r3.1.1.2.2.2.2.2.2.2.2.2.2.2.2.2.2.2.2.2.2.2.1 : Nat) : Int) : Int) = 600)) then
  (bif (decide ((((r5.1.1.2.2.2.2.2.2.2.2.2.2.2.2.2.2.2.2.2.2.2.1 : Nat) : Int) : Int) = 400)) then
  (bif (decide ((r7.1.1 : Int) = 600)) then
  (bif (!r7.1.2.1) then
  (bif (decide ((r8.1.1 : Int) = 1000)) then
  (bif r8.1.2.1 then
  (watershedkit_SameImage r1.1 (r8.1.2.2.1.1, r8.1.2.2.1.2.1, r8.1.2.2.1.2.2.1, r8.1.2.2.1.2.2.2.1, r8.1.2.2.1.2.2.2.2.1, r8.1.2.2.1.2.2.2.2.2.1, r8.1.2.2.1.2.2.2.2.2.2.1, ()) r8.2.2.2.2.2.2.2.2.1 r8.2.2.2.2.2.2.2.2.2.1 r8.2.2.2.2.2.2.2.2.2.2.1 r8.2.2.2.2.2.2.2.2.2.2.2.1 r8.2.2.2.2.2.2.2.2.2.2.2.2.1).bind fun r9 =>
  some (r9.1, ())
  else
  some (false, ()))
  else
  some (false, ()))
  else
  some (false, ()))
  else
  some (false, ()))
  else
  some (false, ()))
  else
  some (false, ()))
  else
  some (false, ()))
  else
  some (false, ()))
noncomputable def watershedlaw13_awake_ce : CE CT Try.prog where
  f := 7
  args := []
  hs := []
  res := .val (.one (.bool))
  outs := []
  m := fun d dh => watershedlaw13_awake
  ok := ce_ok mixedP Try.func7 (by kernel_rfl) (orcOf_ok watershedlaw13_awake_tb) (dr := watershedlaw13_awake_dr) (lps := lpsOf watershedlaw13_awake_lt) (lps_fn (no_loop (by kernel_rfl))) (fun d dh => by kernel_rfl)

def watershedkit_ConfigOf_dr : Nat → Nat → DrA
  | _, _ => ⟨[], [], [], [], [], false, []⟩
noncomputable def watershedkit_ConfigOf_tb : List (CE CT Try.prog) := []
noncomputable def watershedkit_ConfigOf_lt : List (LE CT Try.prog) := []
noncomputable def watershedkit_ConfigOf (x0 : DConfig) : Option ((Int) × (Unit)) :=
  let y1 : Int := (IntKind.i64.wrap ((IntKind.i64.wrap ((IntKind.i64.wrap ((IntKind.i64.wrap (1 + (x0.voters.length : Int))) + (x0.old.length : Int))) + (x0.learners.length : Int))) + (x0.want.length : Int)))
  some (y1, ())
noncomputable def watershedkit_ConfigOf_ce : CE CT Try.prog where
  f := 9
  args := [.cod 15]
  hs := []
  res := .val (.one (.int .i64))
  outs := []
  m := fun d dh => watershedkit_ConfigOf d.1
  ok := ce_ok mixedP Try.func9 (by kernel_rfl) (orcOf_ok watershedkit_ConfigOf_tb) (dr := watershedkit_ConfigOf_dr) (lps := lpsOf watershedkit_ConfigOf_lt) (lps_fn (no_loop (by kernel_rfl))) (fun d dh => by kernel_rfl)

def watershedkit_EntriesOf_dr : Nat → Nat → DrA
  | 5, _ => ⟨[0, 1, 2, 3, 4, 5, 10, 11, 12, 13, 6, 7, 8, 9, 14, 15, 16, 17], [[], [0], [], [], [2, 3], [2, 3, 4], [2, 3, 4, 5], [2, 3, 4, 5, 6], [2, 3, 4, 5, 6, 7], [0, 1, 2, 3, 4, 5, 6, 7, 8], [], [], [10, 11], [10, 11, 12], [10, 11, 12, 13], [10, 11, 12, 13, 14], [0, 1, 2, 3, 4, 5, 6, 7, 8, 9, 10, 11, 12, 13, 14, 15], [0, 1, 2, 3, 4, 5, 6, 7, 8, 9, 10, 11, 12, 13, 14, 15, 16]], [6], [15], [], false, []⟩
  | _, _ => ⟨[], [], [], [], [], false, []⟩
noncomputable def watershedkit_EntriesOf_tb : List (CE CT Try.prog) := [watershedkit_ConfigOf_ce]
noncomputable def watershedkit_EntriesOf_l1 (a : ((List (DEntry)) × (Int) × (Int) × (Int) × Unit) × (Unit)) : Option ((((List (DEntry)) × (Int) × (Int) × (Int) × Unit) × (Unit)) ⊕ ((((Int) × Unit) × (Unit)))) :=
  (bif (decide ((a.1.2.2.2.1 : Int) < (a.1.1.length : Int))) then
  (bif (decide ((a.1.2.2.1 : Int) ≤ a.1.2.1)) then
  (getI a.1.1 a.1.2.2.2.1).bind fun e1 =>
  (getI a.1.1 a.1.2.2.2.1).bind fun e2 =>
  (watershedkit_ConfigOf e2.config).bind fun r3 =>
  let y4 : Int := (IntKind.i64.wrap ((IntKind.i64.wrap ((IntKind.i64.wrap (a.1.2.2.1 + 1)) + (IntKind.i64.wrap (((e1.command.length : Int) : Int).tdiv 8)))) + r3.1))
  some (.inl ((a.1.1, a.1.2.1, y4, (IntKind.i64.wrap (a.1.2.2.2.1 + 1)), ()), ()))
  else
  some (.inr ((a.1.2.2.1, ()), ())))
  else
  some (.inr ((a.1.2.2.1, ()), ())))
noncomputable def watershedkit_EntriesOf_e1 : LE CT Try.prog := ⟨3, [0, 1, 5, 6], [.one (.sl 16), .one (.int .i64), .one (.int .i64), .one (.int .i64)], [], [⟨.exit 0, [5], [.one (.int .i64)], []⟩], watershedkit_EntriesOf_l1⟩
noncomputable def watershedkit_EntriesOf_lt : List (LE CT Try.prog) := [watershedkit_EntriesOf_e1]
theorem watershedkit_EntriesOf_e1_ok : LeOk watershedkit_EntriesOf_e1 (nthL (bodyOf Try.f49) 0) := fun A env h k z hk => le_ok (E := watershedkit_EntriesOf_e1) (orcOf_ok watershedkit_EntriesOf_tb) (dr := watershedkit_EntriesOf_dr) (lps := lpsOf watershedkit_EntriesOf_lt) (no_loop (by kernel_rfl)) (fun a => by kernel_rfl) env h k z hk
noncomputable def watershedkit_EntriesOf (x0 : List (DEntry)) (x1 : Int) : Option ((Int) × (Unit)) :=
  (loopM watershedkit_EntriesOf_l1 ((x0, x1, 0, 0, ()), ())).bind fun b1 =>
  some (b1.1.1, ())
noncomputable def watershedkit_EntriesOf_ce : CE CT Try.prog where
  f := 49
  args := [.one (.sl 16), .one (.int .i64)]
  hs := []
  res := .val (.one (.int .i64))
  outs := []
  m := fun d dh => watershedkit_EntriesOf d.1 d.2.1
  ok := ce_ok mixedP Try.func49 (by kernel_rfl) (orcOf_ok watershedkit_EntriesOf_tb) (dr := watershedkit_EntriesOf_dr) (lps := lpsOf watershedkit_EntriesOf_lt) (lps_fn (lps_of (n := 1) (by kernel_rfl) fun i hi => match i, hi with | 0, _ => lp_ok (E := watershedkit_EntriesOf_e1) (by kernel_rfl) watershedkit_EntriesOf_e1_ok)) (fun d dh => by kernel_rfl)

def watershedkit_LetterOf_dr : Nat → Nat → DrA
  | 1, _ => ⟨[0, 5, 6, 10, 12, 1, 2, 3, 4, 7, 11, 8, 9, 13, 14, 15], [[], [0], [0, 1], [0, 1, 2], [0, 1, 2, 3], [], [5], [5, 6], [5, 6, 7], [0, 1, 2, 3, 4, 5, 6, 7, 8], [], [10], [], [5, 6, 7, 8, 10, 11, 12], [0, 1, 2, 3, 4, 5, 6, 7, 8, 9, 10, 11, 12, 13], [0, 1, 2, 3, 4, 5, 6, 7, 8, 9, 10, 11, 12, 13, 14]], [1, 11], [8, 13], [0], false, []⟩
  | _, _ => ⟨[], [], [], [], [], false, []⟩
noncomputable def watershedkit_LetterOf_tb : List (CE CT Try.prog) := [watershedkit_ConfigOf_ce, watershedkit_EntriesOf_ce]
noncomputable def watershedkit_LetterOf_lt : List (LE CT Try.prog) := []
noncomputable def watershedkit_LetterOf (x0 : DLetter) (x1 : Int) : Option ((Int) × (Unit)) :=
  (watershedkit_ConfigOf x0.base.config).bind fun r1 =>
  (watershedkit_EntriesOf x0.entries x1).bind fun r2 =>
  let y3 : Int := (IntKind.i64.wrap ((IntKind.i64.wrap ((IntKind.i64.wrap (1 + (IntKind.i64.wrap (((x0.bytes.length : Int) : Int).tdiv 8)))) + r1.1)) + r2.1))
  some (y3, ())
noncomputable def watershedkit_LetterOf_ce : CE CT Try.prog where
  f := 29
  args := [.cod 19, .one (.int .i64)]
  hs := []
  res := .val (.one (.int .i64))
  outs := []
  m := fun d dh => watershedkit_LetterOf d.1 d.2.1
  ok := ce_ok mixedP Try.func29 (by kernel_rfl) (orcOf_ok watershedkit_LetterOf_tb) (dr := watershedkit_LetterOf_dr) (lps := lpsOf watershedkit_LetterOf_lt) (lps_fn (no_loop (by kernel_rfl))) (fun d dh => by kernel_rfl)

def watershedlaw13_great_dr : Nat → Nat → DrA
  | _, _ => ⟨[], [], [], [], [], false, []⟩
noncomputable def watershedlaw13_great_tb : List (CE CT Try.prog) := [watershedkit_LetterOf_ce]
noncomputable def watershedlaw13_great_l1 (a : ((List (DLetter)) × (Int) × Unit) × (Unit)) : Option ((((List (DLetter)) × (Int) × Unit) × (Unit)) ⊕ ((((Bool) × Unit) × (Unit)) ⊕ (((List (DLetter)) × Unit) × (Unit)))) :=
  (bif (decide ((a.1.2.1 : Int) < (a.1.1.length : Int))) then
  (bif (decide ((a.1.2.1 : Int) < 61)) then
  (getI a.1.1 a.1.2.1).bind fun e1 =>
  (watershedkit_LetterOf e1 8000).bind fun r2 =>
  (bif (decide ((8000 : Int) < r2.1)) then
  some (.inr (.inl ((true, ()), ())))
  else
  some (.inl ((a.1.1, (IntKind.i64.wrap (a.1.2.1 + 1)), ()), ())))
  else
  some (.inr (.inr ((a.1.1, ()), ()))))
  else
  some (.inr (.inr ((a.1.1, ()), ()))))
noncomputable def watershedlaw13_great_e1 : LE CT Try.prog := ⟨2, [0, 3], [.one (.sl 19), .one (.int .i64)], [], [⟨.ret, [2], [.one (.bool)], []⟩, ⟨.exit 0, [0], [.one (.sl 19)], []⟩], watershedlaw13_great_l1⟩
noncomputable def watershedlaw13_great_lt : List (LE CT Try.prog) := [watershedlaw13_great_e1]
theorem watershedlaw13_great_e1_ok : LeOk watershedlaw13_great_e1 (nthL (bodyOf Try.f8) 0) := fun A env h k z hk => le_ok (E := watershedlaw13_great_e1) (orcOf_ok watershedlaw13_great_tb) (dr := watershedlaw13_great_dr) (lps := lpsOf watershedlaw13_great_lt) (no_loop (by kernel_rfl)) (fun a => by kernel_rfl) env h k z hk
noncomputable def watershedlaw13_great (x0 : List (DLetter)) : Option ((Bool) × (Unit)) :=
  (loopM watershedlaw13_great_l1 ((x0, 0, ()), ())).bind fun b1 =>
  (match b1 with
  | .inl b2 =>
  some (b2.1.1, ())
  | .inr b3 =>
  some ((decide ((60 : Int) < (b3.1.1.length : Int))), ()))
noncomputable def watershedlaw13_great_ce : CE CT Try.prog where
  f := 8
  args := [.one (.sl 19)]
  hs := []
  res := .val (.one (.bool))
  outs := []
  m := fun d dh => watershedlaw13_great d.1
  ok := ce_ok mixedP Try.func8 (by kernel_rfl) (orcOf_ok watershedlaw13_great_tb) (dr := watershedlaw13_great_dr) (lps := lpsOf watershedlaw13_great_lt) (lps_fn (lps_of (n := 1) (by kernel_rfl) fun i hi => match i, hi with | 0, _ => lp_ok (E := watershedlaw13_great_e1) (by kernel_rfl) watershedlaw13_great_e1_ok)) (fun d dh => by kernel_rfl)

def watershedkit_LentBytes_dr : Nat → Nat → DrA
  | _, _ => ⟨[], [], [], [], [], false, []⟩
noncomputable def watershedkit_LentBytes_tb : List (CE CT Try.prog) := [watershedkit_markByte_ce]
noncomputable def watershedkit_LentBytes_l1 (a : ((List (UInt8)) × (Nat × Nat × Nat) × (Int) × Unit) × ((List (UInt8)) × Unit)) : Option ((((List (UInt8)) × (Nat × Nat × Nat) × (Int) × Unit) × ((List (UInt8)) × Unit)) ⊕ ((((List (UInt8)) × (Nat × Nat × Nat) × Unit) × ((List (UInt8)) × Unit)))) :=
  (bif (decide ((a.1.2.2.1 : Int) < 12)) then
  (watershedkit_markByte 1 a.1.2.2.1).bind fun r1 =>
  (b8 r1.1).bind fun u2 =>
  (if (a.1.2.1.2.1 + ([u2] : List (UInt8)).length) ≤ 140737488355328 ∧ (a.1.2.1.2.1 + ([u2] : List (UInt8)).length) * 1 ≤ 140737488355328 ∧ a.1.2.1.1 + a.1.2.1.2.1 ≤ a.2.1.length then
  (if (a.1.2.1.2.1 + ([u2] : List (UInt8)).length) ≤ a.1.2.1.2.2 then
  let y3 : List (UInt8) := (a.2.1.take (a.1.2.1.1 + a.1.2.1.2.1) ++ ([u2] : List (UInt8)) ++ a.2.1.drop (a.1.2.1.1 + a.1.2.1.2.1 + ([u2] : List (UInt8)).length))
  some (.inl ((a.1.1, (a.1.2.1.1, (a.1.2.1.2.1 + ([u2] : List (UInt8)).length), a.1.2.1.2.2), (IntKind.i64.wrap (a.1.2.2.1 + 1)), ()), (y3, ())))
  else none)
  else none)
  else
  some (.inr ((a.1.1, (a.1.2.1.1, a.1.2.1.2.1, a.1.2.1.2.2), ()), (a.2.1, ()))))
noncomputable def watershedkit_LentBytes_e1 : LE CT Try.prog := ⟨4, [0, 3, 4], [.one (.sl 1), .one (.as 1 0), .one (.int .i64)], [.arr 5 1 true], [⟨.exit 0, [0, 3], [.one (.sl 1), .one (.as 1 0)], [.arr 5 1 true]⟩], watershedkit_LentBytes_l1⟩
noncomputable def watershedkit_LentBytes_lt : List (LE CT Try.prog) := [watershedkit_LentBytes_e1]
theorem watershedkit_LentBytes_e1_ok : LeOk watershedkit_LentBytes_e1 (nthL (bodyOf Try.f32) 0) := fun A env h k z hk => le_ok (E := watershedkit_LentBytes_e1) (orcOf_ok watershedkit_LentBytes_tb) (dr := watershedkit_LentBytes_dr) (lps := lpsOf watershedkit_LentBytes_lt) (no_loop (by kernel_rfl)) (fun a => by kernel_rfl) env h k z hk
noncomputable def watershedkit_LentBytes (x0 : List (UInt8)) : Option ((Nat × Nat × Nat) × ((List (UInt8)) × Unit)) :=
  (if 0 ≤ (0 : Int) ∧ (0 : Int) ≤ (IntKind.i64.wrap ((x0.length : Int) + 12)) ∧ ((IntKind.i64.wrap ((x0.length : Int) + 12)) : Int) ≤ 140737488355328 ∧ ((1 : Nat) : Int) * (IntKind.i64.wrap ((x0.length : Int) + 12)) ≤ 140737488355328 then
  let y1 : List (UInt8) := (List.replicate ((IntKind.i64.wrap ((x0.length : Int) + 12)) : Int).toNat (0 : UInt8))
  (if ((0 : Int).toNat + x0.length) ≤ 140737488355328 ∧ ((0 : Int).toNat + x0.length) * 1 ≤ 140737488355328 ∧ 0 + (0 : Int).toNat ≤ y1.length then
  (if ((0 : Int).toNat + x0.length) ≤ ((IntKind.i64.wrap ((x0.length : Int) + 12)) : Int).toNat then
  let y2 : List (UInt8) := (y1.take (0 + (0 : Int).toNat) ++ x0 ++ y1.drop (0 + (0 : Int).toNat + x0.length))
  (loopM watershedkit_LentBytes_l1 ((x0, (0, ((0 : Int).toNat + x0.length), ((IntKind.i64.wrap ((x0.length : Int) + 12)) : Int).toNat), 0, ()), (y2, ()))).bind fun b3 =>
  (if 0 ≤ ((0 : Int) : Int) ∧ ((0 : Int) : Int) ≤ ((b3.1.1.length : Int) : Int) ∧ ((b3.1.1.length : Int) : Int) ≤ ((b3.1.2.1.2.2 : Nat) : Int) ∧ ((b3.1.1.length : Int) : Int) ≤ 140737488355328 then
  some (((b3.1.2.1.1 + (0 : Int).toNat), (((b3.1.1.length : Int) : Int).toNat - (0 : Int).toNat), (b3.1.2.1.2.2 - (0 : Int).toNat)), (b3.2.1, ()))
  else none)
  else none)
  else none)
  else none)
noncomputable def watershedkit_LentBytes_ce : CE CT Try.prog where
  f := 32
  args := [.one (.sl 1)]
  hs := []
  res := .val (.one (.as 1 0))
  outs := [.arr 5 1 false]
  m := fun d dh => watershedkit_LentBytes d.1
  ok := ce_ok mixedP Try.func32 (by kernel_rfl) (orcOf_ok watershedkit_LentBytes_tb) (dr := watershedkit_LentBytes_dr) (lps := lpsOf watershedkit_LentBytes_lt) (lps_fn (lps_of (n := 1) (by kernel_rfl) fun i hi => match i, hi with | 0, _ => lp_ok (E := watershedkit_LentBytes_e1) (by kernel_rfl) watershedkit_LentBytes_e1_ok)) (fun d dh => by kernel_rfl)

def watershedkit_LentInts_dr : Nat → Nat → DrA
  | _, _ => ⟨[], [], [], [], [], false, []⟩
noncomputable def watershedkit_LentInts_tb : List (CE CT Try.prog) := [watershedkit_mark_ce]
noncomputable def watershedkit_LentInts_l1 (a : ((List (Int)) × (Nat × Nat × Nat) × (Int) × Unit) × ((List (Int)) × Unit)) : Option ((((List (Int)) × (Nat × Nat × Nat) × (Int) × Unit) × ((List (Int)) × Unit)) ⊕ ((((List (Int)) × (Nat × Nat × Nat) × Unit) × ((List (Int)) × Unit)))) :=
  (bif (decide ((a.1.2.2.1 : Int) < 12)) then
  (watershedkit_mark 1 a.1.2.2.1).bind fun r1 =>
  (if (a.1.2.1.2.1 + ([r1.1] : List (Int)).length) ≤ 140737488355328 ∧ (a.1.2.1.2.1 + ([r1.1] : List (Int)).length) * 8 ≤ 140737488355328 ∧ a.1.2.1.1 + a.1.2.1.2.1 ≤ a.2.1.length then
  (if (a.1.2.1.2.1 + ([r1.1] : List (Int)).length) ≤ a.1.2.1.2.2 then
  let y2 : List (Int) := (a.2.1.take (a.1.2.1.1 + a.1.2.1.2.1) ++ ([r1.1] : List (Int)) ++ a.2.1.drop (a.1.2.1.1 + a.1.2.1.2.1 + ([r1.1] : List (Int)).length))
  some (.inl ((a.1.1, (a.1.2.1.1, (a.1.2.1.2.1 + ([r1.1] : List (Int)).length), a.1.2.1.2.2), (IntKind.i64.wrap (a.1.2.2.1 + 1)), ()), (y2, ())))
  else none)
  else none)
  else
  some (.inr ((a.1.1, (a.1.2.1.1, a.1.2.1.2.1, a.1.2.1.2.2), ()), (a.2.1, ()))))
noncomputable def watershedkit_LentInts_e1 : LE CT Try.prog := ⟨4, [0, 3, 4], [.one (.sl 0), .one (.as 0 0), .one (.int .i64)], [.arr 3 0 true], [⟨.exit 0, [0, 3], [.one (.sl 0), .one (.as 0 0)], [.arr 3 0 true]⟩], watershedkit_LentInts_l1⟩
noncomputable def watershedkit_LentInts_lt : List (LE CT Try.prog) := [watershedkit_LentInts_e1]
theorem watershedkit_LentInts_e1_ok : LeOk watershedkit_LentInts_e1 (nthL (bodyOf Try.f65) 0) := fun A env h k z hk => le_ok (E := watershedkit_LentInts_e1) (orcOf_ok watershedkit_LentInts_tb) (dr := watershedkit_LentInts_dr) (lps := lpsOf watershedkit_LentInts_lt) (no_loop (by kernel_rfl)) (fun a => by kernel_rfl) env h k z hk
noncomputable def watershedkit_LentInts (x0 : List (Int)) : Option ((Nat × Nat × Nat) × ((List (Int)) × Unit)) :=
  (if 0 ≤ (0 : Int) ∧ (0 : Int) ≤ (IntKind.i64.wrap ((x0.length : Int) + 12)) ∧ ((IntKind.i64.wrap ((x0.length : Int) + 12)) : Int) ≤ 140737488355328 ∧ ((8 : Nat) : Int) * (IntKind.i64.wrap ((x0.length : Int) + 12)) ≤ 140737488355328 then
  let y1 : List (Int) := (List.replicate ((IntKind.i64.wrap ((x0.length : Int) + 12)) : Int).toNat (0 : Int))
  (if ((0 : Int).toNat + x0.length) ≤ 140737488355328 ∧ ((0 : Int).toNat + x0.length) * 8 ≤ 140737488355328 ∧ 0 + (0 : Int).toNat ≤ y1.length then
  (if ((0 : Int).toNat + x0.length) ≤ ((IntKind.i64.wrap ((x0.length : Int) + 12)) : Int).toNat then
  let y2 : List (Int) := (y1.take (0 + (0 : Int).toNat) ++ x0 ++ y1.drop (0 + (0 : Int).toNat + x0.length))
  (loopM watershedkit_LentInts_l1 ((x0, (0, ((0 : Int).toNat + x0.length), ((IntKind.i64.wrap ((x0.length : Int) + 12)) : Int).toNat), 0, ()), (y2, ()))).bind fun b3 =>
  (if 0 ≤ ((0 : Int) : Int) ∧ ((0 : Int) : Int) ≤ ((b3.1.1.length : Int) : Int) ∧ ((b3.1.1.length : Int) : Int) ≤ ((b3.1.2.1.2.2 : Nat) : Int) ∧ ((b3.1.1.length : Int) : Int) ≤ 140737488355328 then
  some (((b3.1.2.1.1 + (0 : Int).toNat), (((b3.1.1.length : Int) : Int).toNat - (0 : Int).toNat), (b3.1.2.1.2.2 - (0 : Int).toNat)), (b3.2.1, ()))
  else none)
  else none)
  else none)
  else none)
noncomputable def watershedkit_LentInts_ce : CE CT Try.prog where
  f := 65
  args := [.one (.sl 0)]
  hs := []
  res := .val (.one (.as 0 0))
  outs := [.arr 3 0 false]
  m := fun d dh => watershedkit_LentInts d.1
  ok := ce_ok mixedP Try.func65 (by kernel_rfl) (orcOf_ok watershedkit_LentInts_tb) (dr := watershedkit_LentInts_dr) (lps := lpsOf watershedkit_LentInts_lt) (lps_fn (lps_of (n := 1) (by kernel_rfl) fun i hi => match i, hi with | 0, _ => lp_ok (E := watershedkit_LentInts_e1) (by kernel_rfl) watershedkit_LentInts_e1_ok)) (fun d dh => by kernel_rfl)

def watershedkit_LentConfig_dr : Nat → Nat → DrA
  | _, _ => ⟨[], [], [], [], [], false, []⟩
noncomputable def watershedkit_LentConfig_tb : List (CE CT Try.prog) := [watershedkit_LentInts_ce]
noncomputable def watershedkit_LentConfig_lt : List (LE CT Try.prog) := []
noncomputable def watershedkit_LentConfig (x0 : DConfig) : Option (((Nat × Nat × Nat) × (Nat × Nat × Nat) × (Nat × Nat × Nat) × (Nat × Nat × Nat) × Unit) × ((List (Int)) × (List (Int)) × (List (Int)) × (List (Int)) × Unit)) :=
  (watershedkit_LentInts x0.voters).bind fun r1 =>
  (watershedkit_LentInts x0.old).bind fun r2 =>
  (watershedkit_LentInts x0.learners).bind fun r3 =>
  (watershedkit_LentInts x0.want).bind fun r4 =>
  some (((r1.1.1, r1.1.2.1, r1.1.2.2), (r2.1.1, r2.1.2.1, r2.1.2.2), (r3.1.1, r3.1.2.1, r3.1.2.2), (r4.1.1, r4.1.2.1, r4.1.2.2), ()), (r1.2.1, r2.2.1, r3.2.1, r4.2.1, ()))
noncomputable def watershedkit_LentConfig_ce : CE CT Try.prog where
  f := 52
  args := [.cod 15]
  hs := []
  res := .val (.agg [.as 0 0, .as 0 1, .as 0 2, .as 0 3])
  outs := [.arr 3 0 false, .arr 3 0 false, .arr 3 0 false, .arr 3 0 false]
  m := fun d dh => watershedkit_LentConfig d.1
  ok := ce_ok mixedP Try.func52 (by kernel_rfl) (orcOf_ok watershedkit_LentConfig_tb) (dr := watershedkit_LentConfig_dr) (lps := lpsOf watershedkit_LentConfig_lt) (lps_fn (no_loop (by kernel_rfl))) (fun d dh => by kernel_rfl)

def watershedkit_LentEntry_dr : Nat → Nat → DrA
  | _, _ => ⟨[], [], [], [], [], false, []⟩
noncomputable def watershedkit_LentEntry_tb : List (CE CT Try.prog) := [watershedkit_LentBytes_ce, watershedkit_LentConfig_ce]
noncomputable def watershedkit_LentEntry_lt : List (LE CT Try.prog) := []
noncomputable def watershedkit_LentEntry (x0 : DEntry) : Option (((Int) × (Int) × (Nat × Nat × Nat) × (Nat × Nat × Nat) × (Nat × Nat × Nat) × (Nat × Nat × Nat) × (Nat × Nat × Nat) × Unit) × ((List (UInt8)) × (List (Int)) × (List (Int)) × (List (Int)) × (List (Int)) × Unit)) :=
  (watershedkit_LentBytes x0.command).bind fun r1 =>
  (watershedkit_LentConfig x0.config).bind fun r2 =>
  some ((x0.term_, x0.kind, (r1.1.1, r1.1.2.1, r1.1.2.2), (r2.1.1.1, r2.1.1.2.1, r2.1.1.2.2), (r2.1.2.1.1, r2.1.2.1.2.1, r2.1.2.1.2.2), (r2.1.2.2.1.1, r2.1.2.2.1.2.1, r2.1.2.2.1.2.2), (r2.1.2.2.2.1.1, r2.1.2.2.2.1.2.1, r2.1.2.2.2.1.2.2), ()), (r1.2.1, r2.2.1, r2.2.2.1, r2.2.2.2.1, r2.2.2.2.2.1, ()))
noncomputable def watershedkit_LentEntry_ce : CE CT Try.prog where
  f := 50
  args := [.cod 16]
  hs := []
  res := .val (.agg [.int .i64, .int .u8, .as 1 0, .as 0 1, .as 0 2, .as 0 3, .as 0 4])
  outs := [.arr 5 1 false, .arr 3 0 false, .arr 3 0 false, .arr 3 0 false, .arr 3 0 false]
  m := fun d dh => watershedkit_LentEntry d.1
  ok := ce_ok mixedP Try.func50 (by kernel_rfl) (orcOf_ok watershedkit_LentEntry_tb) (dr := watershedkit_LentEntry_dr) (lps := lpsOf watershedkit_LentEntry_lt) (lps_fn (no_loop (by kernel_rfl))) (fun d dh => by kernel_rfl)

def watershedkit_markEntry_dr : Nat → Nat → DrA
  | _, _ => ⟨[], [], [], [], [], false, []⟩
noncomputable def watershedkit_markEntry_tb : List (CE CT Try.prog) := [watershedkit_mark_ce]
noncomputable def watershedkit_markEntry_lt : List (LE CT Try.prog) := []
noncomputable def watershedkit_markEntry (x0 : Int) (x1 : Int) : Option (((Int) × (Int) × (Unit) × (Unit) × (Unit) × (Unit) × (Unit) × Unit) × (Unit)) :=
  (watershedkit_mark x0 x1).bind fun r1 =>
  some ((r1.1, 0, (), (), (), (), (), ()), ())
noncomputable def watershedkit_markEntry_ce : CE CT Try.prog where
  f := 51
  args := [.one (.int .i64), .one (.int .i64)]
  hs := []
  res := .val (.agg [.int .i64, .int .u8, .nil, .nil, .nil, .nil, .nil])
  outs := []
  m := fun d dh => watershedkit_markEntry d.1 d.2.1
  ok := ce_ok mixedP Try.func51 (by kernel_rfl) (orcOf_ok watershedkit_markEntry_tb) (dr := watershedkit_markEntry_dr) (lps := lpsOf watershedkit_markEntry_lt) (lps_fn (no_loop (by kernel_rfl))) (fun d dh => by kernel_rfl)

def watershedkit_LentEntries_dr : Nat → Nat → DrA
  | _, _ => ⟨[], [], [], [], [], false, []⟩
noncomputable def watershedkit_LentEntries_tb : List (CE CT Try.prog) := [watershedkit_LentEntry_ce, watershedkit_markEntry_ce]
noncomputable def watershedkit_LentEntries_l1 (a : ((List (DEntry)) × (Nat × Nat × Nat × Unit) × (Int) × Unit) × ((List (DEntryX)) × Unit)) : Option ((((List (DEntry)) × (Nat × Nat × Nat × Unit) × (Int) × Unit) × ((List (DEntryX)) × Unit)) ⊕ ((((List (DEntry)) × (Nat × Nat × Nat × Unit) × Unit) × ((Unit) × (List (DEntryX)) × Unit)))) :=
  (bif (decide ((a.1.2.2.1 : Int) < (a.1.1.length : Int))) then
  (getI a.1.1 a.1.2.2.1).bind fun e1 =>
  (watershedkit_LentEntry e1).bind fun r2 =>
  (if true = true ∧ r2.1.2.2.1.1 = 0 ∧ r2.2.1.length = r2.1.2.2.1.2.2 ∧ r2.1.2.2.1.2.1 ≤ r2.1.2.2.1.2.2 ∧ 0 < r2.1.2.2.1.2.2 then
  (if true = true ∧ r2.1.2.2.2.1.1 = 0 ∧ r2.2.2.1.length = r2.1.2.2.2.1.2.2 ∧ r2.1.2.2.2.1.2.1 ≤ r2.1.2.2.2.1.2.2 ∧ 0 < r2.1.2.2.2.1.2.2 then
  (if true = true ∧ r2.1.2.2.2.2.1.1 = 0 ∧ r2.2.2.2.1.length = r2.1.2.2.2.2.1.2.2 ∧ r2.1.2.2.2.2.1.2.1 ≤ r2.1.2.2.2.2.1.2.2 ∧ 0 < r2.1.2.2.2.2.1.2.2 then
  (if true = true ∧ r2.1.2.2.2.2.2.1.1 = 0 ∧ r2.2.2.2.2.1.length = r2.1.2.2.2.2.2.1.2.2 ∧ r2.1.2.2.2.2.2.1.2.1 ≤ r2.1.2.2.2.2.2.1.2.2 ∧ 0 < r2.1.2.2.2.2.2.1.2.2 then
  (if true = true ∧ r2.1.2.2.2.2.2.2.1.1 = 0 ∧ r2.2.2.2.2.2.1.length = r2.1.2.2.2.2.2.2.1.2.2 ∧ r2.1.2.2.2.2.2.2.1.2.1 ≤ r2.1.2.2.2.2.2.2.1.2.2 ∧ 0 < r2.1.2.2.2.2.2.2.1.2.2 then
  (if a.1.2.1.1 = 0 ∧ a.1.2.1.2.1 < a.1.2.1.2.2.1 then
  some (.inl ((a.1.1, (0, (a.1.2.1.2.1 + 1), a.1.2.1.2.2.1, ()), (IntKind.i64.wrap (a.1.2.2.1 + 1)), ()), ((a.2.1.set a.1.2.1.2.1 (⟨r2.1.1, r2.1.2.1, ((r2.2.1.take r2.1.2.2.1.2.1), (r2.2.1.drop r2.1.2.2.1.2.1)), (⟨((r2.2.2.1.take r2.1.2.2.2.1.2.1), (r2.2.2.1.drop r2.1.2.2.2.1.2.1)), ((r2.2.2.2.1.take r2.1.2.2.2.2.1.2.1), (r2.2.2.2.1.drop r2.1.2.2.2.2.1.2.1)), ((r2.2.2.2.2.1.take r2.1.2.2.2.2.2.1.2.1), (r2.2.2.2.2.1.drop r2.1.2.2.2.2.2.1.2.1)), ((r2.2.2.2.2.2.1.take r2.1.2.2.2.2.2.2.1.2.1), (r2.2.2.2.2.2.1.drop r2.1.2.2.2.2.2.2.1.2.1))⟩ : DConfigX)⟩ : DEntryX)), ())))
  else none)
  else none)
  else none)
  else none)
  else none)
  else none)
  else
  some (.inr ((a.1.1, (a.1.2.1.1, a.1.2.1.2.1, a.1.2.1.2.2.1, ()), ()), ((), a.2.1, ()))))
noncomputable def watershedkit_LentEntries_e1 : LE CT Try.prog := ⟨3, [0, 3, 4], [.one (.sl 16), .one (.gv 0 28 3), .one (.int .i64)], [.gen 8 false], [⟨.exit 0, [0, 3], [.one (.sl 16), .one (.gv 1 28 3)], [.dead, .gen 8 false]⟩], watershedkit_LentEntries_l1⟩
noncomputable def watershedkit_LentEntries_l2 (a : ((List (DEntry)) × (Nat × Nat × Nat × Unit) × (Int) × Unit) × ((List (DEntryX)) × Unit)) : Option ((((List (DEntry)) × (Nat × Nat × Nat × Unit) × (Int) × Unit) × ((List (DEntryX)) × Unit)) ⊕ ((((List (DEntry)) × (Nat × Nat × Nat × Unit) × Unit) × ((Unit) × (List (DEntryX)) × Unit)))) :=
  (bif (decide ((a.1.2.2.1 : Int) < 12)) then
  (watershedkit_markEntry 1 a.1.2.2.1).bind fun r1 =>
  (if a.1.2.1.1 = 0 ∧ a.1.2.1.2.1 < a.1.2.1.2.2.1 then
  some (.inl ((a.1.1, (0, (a.1.2.1.2.1 + 1), a.1.2.1.2.2.1, ()), (IntKind.i64.wrap (a.1.2.2.1 + 1)), ()), ((a.2.1.set a.1.2.1.2.1 (⟨r1.1.1, r1.1.2.1, ([], []), (⟨([], []), ([], []), ([], []), ([], [])⟩ : DConfigX)⟩ : DEntryX)), ())))
  else none)
  else
  some (.inr ((a.1.1, (a.1.2.1.1, a.1.2.1.2.1, a.1.2.1.2.2.1, ()), ()), ((), a.2.1, ()))))
noncomputable def watershedkit_LentEntries_e2 : LE CT Try.prog := ⟨8, [0, 3, 6], [.one (.sl 16), .one (.gv 0 28 3), .one (.int .i64)], [.gen 8 false], [⟨.exit 2, [0, 3], [.one (.sl 16), .one (.gv 1 28 3)], [.dead, .gen 8 false]⟩], watershedkit_LentEntries_l2⟩
noncomputable def watershedkit_LentEntries_lt : List (LE CT Try.prog) := [watershedkit_LentEntries_e1, watershedkit_LentEntries_e2]
theorem watershedkit_LentEntries_e1_ok : LeOk watershedkit_LentEntries_e1 (nthL (bodyOf Try.f30) 0) := fun A env h k z hk => le_ok (E := watershedkit_LentEntries_e1) (orcOfX_ok HK1 watershedkit_LentEntries_tb) (dr := watershedkit_LentEntries_dr) (lps := lpsOf watershedkit_LentEntries_lt) (no_loop (by kernel_rfl)) (fun a => by kernel_rfl) env h k z hk
theorem watershedkit_LentEntries_e2_ok : LeOk watershedkit_LentEntries_e2 (nthL (bodyOf Try.f30) 1) := fun A env h k z hk => le_ok (E := watershedkit_LentEntries_e2) (orcOfX_ok HK1 watershedkit_LentEntries_tb) (dr := watershedkit_LentEntries_dr) (lps := lpsOf watershedkit_LentEntries_lt) (no_loop (by kernel_rfl)) (fun a => by kernel_rfl) env h k z hk
noncomputable def watershedkit_LentEntries (x0 : List (DEntry)) : Option ((Nat × Nat × Nat × Unit) × ((List (DEntryX)) × Unit)) :=
  (if 0 ≤ (0 : Int) ∧ (0 : Int) ≤ (IntKind.i64.wrap ((x0.length : Int) + 12)) ∧ 0 < ((IntKind.i64.wrap ((x0.length : Int) + 12)) : Int) ∧ ((IntKind.i64.wrap ((x0.length : Int) + 12)) : Int) ≤ 140737488355328 ∧ ((136 : Nat) : Int) * (IntKind.i64.wrap ((x0.length : Int) + 12)) ≤ 140737488355328 then
  (loopM watershedkit_LentEntries_l1 ((x0, (0, (0 : Int).toNat, ((IntKind.i64.wrap ((x0.length : Int) + 12)) : Int).toNat, ()), 0, ()), ((List.replicate ((IntKind.i64.wrap ((x0.length : Int) + 12)) : Int).toNat (⟨0, 0, ([], []), (⟨([], []), ([], []), ([], []), ([], [])⟩ : DConfigX)⟩ : DEntryX)), ()))).bind fun b1 =>
  (loopM watershedkit_LentEntries_l2 ((b1.1.1, (b1.1.2.1.1, b1.1.2.1.2.1, b1.1.2.1.2.2.1, ()), 0, ()), (b1.2.2.1, ()))).bind fun b2 =>
  (if 0 ≤ (0 : Int) ∧ (0 : Int) ≤ ((b2.1.1.length : Int) : Int) ∧ ((b2.1.1.length : Int) : Int) ≤ ((b2.1.2.1.2.2.1 - b2.1.2.1.1 : Nat) : Int) ∧ (0 : Int) < ((b2.1.2.1.2.2.1 - b2.1.2.1.1 : Nat) : Int) then
  some (((b2.1.2.1.1 + (0 : Int).toNat), (((b2.1.1.length : Int) : Int).toNat - (0 : Int).toNat), b2.1.2.1.2.2.1, ()), (b2.2.2.1, ()))
  else none)
  else none)
noncomputable def watershedkit_LentEntries_ce : CE CT Try.prog where
  f := 30
  args := [.one (.sl 16)]
  hs := []
  res := .val (.one (.gv 0 28 3))
  outs := [.gen 8 false]
  m := fun d dh => watershedkit_LentEntries d.1
  ok := ce_ok mixedP Try.func30 (by kernel_rfl) (orcOfX_ok HK1 watershedkit_LentEntries_tb) (dr := watershedkit_LentEntries_dr) (lps := lpsOf watershedkit_LentEntries_lt) (lps_fn (lps_of (n := 2) (by kernel_rfl) fun i hi => match i, hi with | 0, _ => lp_ok (E := watershedkit_LentEntries_e1) (by kernel_rfl) watershedkit_LentEntries_e1_ok | 1, _ => lp_ok (E := watershedkit_LentEntries_e2) (by kernel_rfl) watershedkit_LentEntries_e2_ok)) (fun d dh => by kernel_rfl)

def watershedkit_LentBase_dr : Nat → Nat → DrA
  | _, _ => ⟨[], [], [], [], [], false, []⟩
noncomputable def watershedkit_LentBase_tb : List (CE CT Try.prog) := [watershedkit_LentConfig_ce]
noncomputable def watershedkit_LentBase_lt : List (LE CT Try.prog) := []
noncomputable def watershedkit_LentBase (x0 : DBase) : Option (((Int) × (Int) × (Nat × Nat × Nat) × (Nat × Nat × Nat) × (Nat × Nat × Nat) × (Nat × Nat × Nat) × Unit) × ((List (Int)) × (List (Int)) × (List (Int)) × (List (Int)) × Unit)) :=
  (watershedkit_LentConfig x0.config).bind fun r1 =>
  some ((x0.index, x0.term_, (r1.1.1.1, r1.1.1.2.1, r1.1.1.2.2), (r1.1.2.1.1, r1.1.2.1.2.1, r1.1.2.1.2.2), (r1.1.2.2.1.1, r1.1.2.2.1.2.1, r1.1.2.2.1.2.2), (r1.1.2.2.2.1.1, r1.1.2.2.2.1.2.1, r1.1.2.2.2.1.2.2), ()), (r1.2.1, r1.2.2.1, r1.2.2.2.1, r1.2.2.2.2.1, ()))
noncomputable def watershedkit_LentBase_ce : CE CT Try.prog where
  f := 31
  args := [.cod 18]
  hs := []
  res := .val (.agg [.int .i64, .int .i64, .as 0 0, .as 0 1, .as 0 2, .as 0 3])
  outs := [.arr 3 0 false, .arr 3 0 false, .arr 3 0 false, .arr 3 0 false]
  m := fun d dh => watershedkit_LentBase d.1
  ok := ce_ok mixedP Try.func31 (by kernel_rfl) (orcOf_ok watershedkit_LentBase_tb) (dr := watershedkit_LentBase_dr) (lps := lpsOf watershedkit_LentBase_lt) (lps_fn (no_loop (by kernel_rfl))) (fun d dh => by kernel_rfl)

def watershedkit_LentLetter_dr : Nat → Nat → DrA
  | _, _ => ⟨[], [], [], [], [], false, []⟩
noncomputable def watershedkit_LentLetter_tb : List (CE CT Try.prog) := [watershedkit_LentEntries_ce, watershedkit_LentBase_ce, watershedkit_LentBytes_ce]
noncomputable def watershedkit_LentLetter_lt : List (LE CT Try.prog) := []
noncomputable def watershedkit_LentLetter (x0 : DLetter) : Option (((Int) × (Int) × (Int) × (Int) × (Int) × (Int) × (Int) × (Int) × (Bool) × (Nat × Nat × Nat × Unit) × (Int) × (Int) × (Nat × Nat × Nat) × (Nat × Nat × Nat) × (Nat × Nat × Nat) × (Nat × Nat × Nat) × (Int) × (Int) × (Int) × (Nat × Nat × Nat) × Unit) × ((List (DEntryX)) × (List (Int)) × (List (Int)) × (List (Int)) × (List (Int)) × (List (UInt8)) × Unit)) :=
  (watershedkit_LentEntries x0.entries).bind fun r1 =>
  (watershedkit_LentBase x0.base).bind fun r2 =>
  (watershedkit_LentBytes x0.bytes).bind fun r3 =>
  some ((x0.kind, x0.group, x0.from_, x0.to_, x0.term_, x0.index, x0.logTerm, x0.commit, x0.ok, (r1.1.1, r1.1.2.1, r1.1.2.2.1, ()), r2.1.1, r2.1.2.1, (r2.1.2.2.1.1, r2.1.2.2.1.2.1, r2.1.2.2.1.2.2), (r2.1.2.2.2.1.1, r2.1.2.2.2.1.2.1, r2.1.2.2.2.1.2.2), (r2.1.2.2.2.2.1.1, r2.1.2.2.2.2.1.2.1, r2.1.2.2.2.2.1.2.2), (r2.1.2.2.2.2.2.1.1, r2.1.2.2.2.2.2.1.2.1, r2.1.2.2.2.2.2.1.2.2), x0.size, x0.at_, x0.tag, (r3.1.1, r3.1.2.1, r3.1.2.2), ()), (r1.2.1, r2.2.1, r2.2.2.1, r2.2.2.2.1, r2.2.2.2.2.1, r3.2.1, ()))
noncomputable def watershedkit_LentLetter_ce : CE CT Try.prog where
  f := 10
  args := [.cod 19]
  hs := []
  res := .val (.agg [.int .u8, .int .i64, .int .i64, .int .i64, .int .i64, .int .i64, .int .i64, .int .i64, .bool, .gv 0 28 3, .int .i64, .int .i64, .as 0 1, .as 0 2, .as 0 3, .as 0 4, .int .i64, .int .i64, .int .i64, .as 1 5])
  outs := [.gen 8 false, .arr 3 0 false, .arr 3 0 false, .arr 3 0 false, .arr 3 0 false, .arr 5 1 false]
  m := fun d dh => watershedkit_LentLetter d.1
  ok := ce_ok mixedP Try.func10 (by kernel_rfl) (orcOf_ok watershedkit_LentLetter_tb) (dr := watershedkit_LentLetter_dr) (lps := lpsOf watershedkit_LentLetter_lt) (lps_fn (no_loop (by kernel_rfl))) (fun d dh => by kernel_rfl)

noncomputable def cloneEk54 (x0 : Nat × Nat × Nat) (h0 : List (Int)) : Option (Nat × (List (Int) × List (Int) × Unit)) :=
  if x0.1 + x0.2.1 ≤ h0.length ∧ ((h0.drop x0.1).take x0.2.1).length ≤ 140737488355328 ∧ ((h0.drop x0.1).take x0.2.1).length * 8 ≤ 140737488355328 then some (((h0.drop x0.1).take x0.2.1).length, (h0, ((h0.drop x0.1).take x0.2.1), ())) else none
noncomputable def cloneEk54_ce : CE CT Try.prog where
  f := 54
  args := [.one (.as 0 0)]
  hs := [.arr 3 0 true]
  res := .val (.one (.asz 0 1))
  outs := [.arr 3 0 true, .arr 3 0 false]
  m := fun d dh => cloneEk54 d.1 dh.1
  ok := fun d dh r hr => by
    unfold cloneEk54 at hr
    split at hr
    · rename_i hc
      injection hr with hr
      subst hr
      have hroom := hc.2
      exact Tr.lendArr (fun x => rfl) (U0 := fun _ => True) (Tr.kp0 (cloneE_tr mixedP Try.func54 (by kernel_rfl) rfl rfl (zv := .int .i64 0) (he := by kernel_rfl) (hsz := by kernel_rfl) (hz := by kernel_rfl) (hby := by kernel_rfl) rfl rfl (zt := (0 : Int)) ((dh.1.drop d.1.1).take d.1.2.1) (by kernel_rfl) hroom)) (lend_as (Nat.le_trans (Nat.le_of_eq rfl) hc.1)) rfl
    · cases hr

def ferry_own_3_dr : Nat → Nat → DrA
  | 2, _ => ⟨[0, 3, 6, 9, 1, 4, 7, 10, 2, 5, 8, 11, 12, 13, 14], [[], [0], [0, 1], [], [3], [0, 1, 2, 3, 4], [], [6], [0, 1, 2, 3, 4, 5, 6, 7], [], [9], [0, 1, 2, 3, 4, 5, 6, 7, 8, 9, 10], [0, 1, 2, 3, 4, 5, 6, 7, 8, 9, 10, 11], [0, 1, 2, 3, 4, 5, 6, 7, 8, 9, 10, 11, 12], [0, 1, 2, 3, 4, 5, 6, 7, 8, 9, 10, 11, 12, 13]], [4, 7, 10], [2, 5, 8], [6], false, []⟩
  | _, _ => ⟨[], [], [], [], [], false, []⟩
noncomputable def ferry_own_3_tb : List (CE CT Try.prog) := [cloneEk54_ce]
noncomputable def ferry_own_3_lt : List (LE CT Try.prog) := []
noncomputable def ferry_own_3 (x0 : (Int) × (Int) × (Nat × Nat × Nat) × (Nat × Nat × Nat) × (Nat × Nat × Nat) × (Nat × Nat × Nat) × Unit) (h0 : List (Int)) (h1 : List (Int)) (h2 : List (Int)) (h3 : List (Int)) : Option (((Int) × (Int) × (Nat) × (Nat) × (Nat) × (Nat) × Unit) × ((List (Int)) × (List (Int)) × (List (Int)) × (List (Int)) × (List (Int)) × (List (Int)) × (List (Int)) × (List (Int)) × Unit)) :=
  (cloneEk54 (x0.2.2.1.1, x0.2.2.1.2.1, x0.2.2.1.2.2) h0).bind fun r1 =>
  (cloneEk54 (x0.2.2.2.1.1, x0.2.2.2.1.2.1, x0.2.2.2.1.2.2) h1).bind fun r2 =>
  (cloneEk54 (x0.2.2.2.2.1.1, x0.2.2.2.2.1.2.1, x0.2.2.2.2.1.2.2) h2).bind fun r3 =>
  (cloneEk54 (x0.2.2.2.2.2.1.1, x0.2.2.2.2.2.1.2.1, x0.2.2.2.2.2.1.2.2) h3).bind fun r4 =>
  some ((x0.1, x0.2.1, r1.1, r2.1, r3.1, r4.1, ()), (r1.2.1, r2.2.1, r3.2.1, r4.2.1, r1.2.2.1, r2.2.2.1, r3.2.2.1, r4.2.2.1, ()))
noncomputable def ferry_own_3_ce : CE CT Try.prog where
  f := 33
  args := [.agg [.int .i64, .int .i64, .as 0 0, .as 0 1, .as 0 2, .as 0 3]]
  hs := [.arr 3 0 true, .arr 3 0 true, .arr 3 0 true, .arr 3 0 true]
  res := .val (.agg [.int .i64, .int .i64, .asz 0 4, .asz 0 5, .asz 0 6, .asz 0 7])
  outs := [.arr 3 0 true, .arr 3 0 true, .arr 3 0 true, .arr 3 0 true, .arr 3 0 false, .arr 3 0 false, .arr 3 0 false, .arr 3 0 false]
  m := fun d dh => ferry_own_3 d.1 dh.1 dh.2.1 dh.2.2.1 dh.2.2.2.1
  ok := ce_ok mixedP Try.func33 (by kernel_rfl) (orcOf_ok ferry_own_3_tb) (dr := ferry_own_3_dr) (lps := lpsOf ferry_own_3_lt) (lps_fn (no_loop (by kernel_rfl))) (fun d dh => by kernel_rfl)

def watershedkit_CopyInts_dr : Nat → Nat → DrA
  | _, _ => ⟨[], [], [], [], [], false, []⟩
noncomputable def watershedkit_CopyInts_tb : List (CE CT Try.prog) := []
noncomputable def watershedkit_CopyInts_lt : List (LE CT Try.prog) := []
noncomputable def watershedkit_CopyInts (x0 : List (Int)) : Option ((List (Int)) × ((Unit) × Unit)) :=
  (if x0.length ≤ 140737488355328 ∧ x0.length * 8 ≤ 140737488355328 then
  some (x0, ((), ()))
  else none)
noncomputable def watershedkit_CopyInts_ce : CE CT Try.prog where
  f := 67
  args := [.one (.sl 0)]
  hs := []
  res := .val (.one (.own 0 0))
  outs := [.row 3 1]
  m := fun d dh => watershedkit_CopyInts d.1
  ok := ce_ok mixedP Try.func67 (by kernel_rfl) (orcOf_ok watershedkit_CopyInts_tb) (dr := watershedkit_CopyInts_dr) (lps := lpsOf watershedkit_CopyInts_lt) (lps_fn (no_loop (by kernel_rfl))) (fun d dh => by kernel_rfl)

def watershedkit_CopyConfig_dr : Nat → Nat → DrA
  | _, _ => ⟨[], [], [], [], [], false, []⟩
noncomputable def watershedkit_CopyConfig_tb : List (CE CT Try.prog) := [watershedkit_CopyInts_ce]
noncomputable def watershedkit_CopyConfig_lt : List (LE CT Try.prog) := []
noncomputable def watershedkit_CopyConfig (x0 : DConfig) : Option ((DConfig) × (Unit)) :=
  (watershedkit_CopyInts x0.voters).bind fun r1 =>
  (watershedkit_CopyInts x0.old).bind fun r2 =>
  (watershedkit_CopyInts x0.learners).bind fun r3 =>
  (watershedkit_CopyInts x0.want).bind fun r4 =>
  some ((⟨r1.1, r2.1, r3.1, r4.1⟩ : DConfig), ())
noncomputable def watershedkit_CopyConfig_ce : CE CT Try.prog where
  f := 57
  args := [.cod 15]
  hs := []
  res := .val (.cod 15)
  outs := []
  m := fun d dh => watershedkit_CopyConfig d.1
  ok := ce_ok mixedP Try.func57 (by kernel_rfl) (orcOf_ok watershedkit_CopyConfig_tb) (dr := watershedkit_CopyConfig_dr) (lps := lpsOf watershedkit_CopyConfig_lt) (lps_fn (no_loop (by kernel_rfl))) (fun d dh => by kernel_rfl)

def watershedkit_CopyBase_dr : Nat → Nat → DrA
  | _, _ => ⟨[], [], [], [], [], false, []⟩
noncomputable def watershedkit_CopyBase_tb : List (CE CT Try.prog) := [watershedkit_CopyConfig_ce]
noncomputable def watershedkit_CopyBase_lt : List (LE CT Try.prog) := []
noncomputable def watershedkit_CopyBase (x0 : DBase) : Option ((DBase) × (Unit)) :=
  (watershedkit_CopyConfig x0.config).bind fun r1 =>
  some ((⟨x0.index, x0.term_, r1.1⟩ : DBase), ())
noncomputable def watershedkit_CopyBase_ce : CE CT Try.prog where
  f := 36
  args := [.cod 18]
  hs := []
  res := .val (.cod 18)
  outs := []
  m := fun d dh => watershedkit_CopyBase d.1
  ok := ce_ok mixedP Try.func36 (by kernel_rfl) (orcOf_ok watershedkit_CopyBase_tb) (dr := watershedkit_CopyBase_dr) (lps := lpsOf watershedkit_CopyBase_lt) (lps_fn (no_loop (by kernel_rfl))) (fun d dh => by kernel_rfl)

def watershedkit_SameBytes_2_dr : Nat → Nat → DrA
  | 6, _ => ⟨[0, 1, 2, 4, 5, 6, 3, 7, 8], [[], [], [0, 1], [0, 1, 2], [], [], [4, 5], [4, 5, 6], [0, 1, 2, 3, 4, 5, 6, 7]], [], [], [], false, []⟩
  | _, _ => ⟨[], [], [], [], [], false, []⟩
noncomputable def watershedkit_SameBytes_2_tb : List (CE CT Try.prog) := []
noncomputable def watershedkit_SameBytes_2_l1 (a : ((List (UInt8)) × (List (UInt8)) × (Int) × Unit) × (Unit)) : Option ((((List (UInt8)) × (List (UInt8)) × (Int) × Unit) × (Unit)) ⊕ ((((Bool) × Unit) × (Unit)) ⊕ ((Unit) × (Unit)))) :=
  (bif (decide ((a.1.2.2.1 : Int) < (a.1.1.length : Int))) then
  (getI a.1.1 a.1.2.2.1).bind fun e1 =>
  (getI a.1.2.1 a.1.2.2.1).bind fun e2 =>
  (bif (decide (((e1.toNat : Int) : Int) ≠ (e2.toNat : Int))) then
  some (.inr (.inl ((false, ()), ())))
  else
  some (.inl ((a.1.1, a.1.2.1, (IntKind.i64.wrap (a.1.2.2.1 + 1)), ()), ())))
  else
  some (.inr (.inr ((), ()))))
noncomputable def watershedkit_SameBytes_2_e1 : LE CT Try.prog := ⟨4, [0, 1, 5], [.one (.sl 1), .one (.sl 1), .one (.int .i64)], [], [⟨.ret, [4], [.one (.bool)], []⟩, ⟨.exit 0, [], [], []⟩], watershedkit_SameBytes_2_l1⟩
noncomputable def watershedkit_SameBytes_2_lt : List (LE CT Try.prog) := [watershedkit_SameBytes_2_e1]
theorem watershedkit_SameBytes_2_e1_ok : LeOk watershedkit_SameBytes_2_e1 (nthL (bodyOf Try.f39) 0) := fun A env h k z hk => le_ok (E := watershedkit_SameBytes_2_e1) (orcOf_ok watershedkit_SameBytes_2_tb) (dr := watershedkit_SameBytes_2_dr) (lps := lpsOf watershedkit_SameBytes_2_lt) (no_loop (by kernel_rfl)) (fun a => by kernel_rfl) env h k z hk
noncomputable def watershedkit_SameBytes_2 (x0 : List (UInt8)) (x1 : List (UInt8)) : Option ((Bool) × (Unit)) :=
  (bif (decide (((x0.length : Int) : Int) ≠ (x1.length : Int))) then
  some (false, ())
  else
  (loopM watershedkit_SameBytes_2_l1 ((x0, x1, 0, ()), ())).bind fun b1 =>
  (match b1 with
  | .inl b2 =>
  some (b2.1.1, ())
  | .inr b3 =>
  some (true, ())))
noncomputable def watershedkit_SameBytes_2_ce : CE CT Try.prog where
  f := 39
  args := [.one (.sl 1), .one (.sl 1)]
  hs := []
  res := .val (.one (.bool))
  outs := []
  m := fun d dh => watershedkit_SameBytes_2 d.1 d.2.1
  ok := ce_ok mixedP Try.func39 (by kernel_rfl) (orcOf_ok watershedkit_SameBytes_2_tb) (dr := watershedkit_SameBytes_2_dr) (lps := lpsOf watershedkit_SameBytes_2_lt) (lps_fn (lps_of (n := 1) (by kernel_rfl) fun i hi => match i, hi with | 0, _ => lp_ok (E := watershedkit_SameBytes_2_e1) (by kernel_rfl) watershedkit_SameBytes_2_e1_ok)) (fun d dh => by kernel_rfl)

def watershedkit_SameInts_2_dr : Nat → Nat → DrA
  | 6, _ => ⟨[0, 1, 2, 4, 5, 6, 3, 7, 8], [[], [], [0, 1], [0, 1, 2], [], [], [4, 5], [4, 5, 6], [0, 1, 2, 3, 4, 5, 6, 7]], [], [], [], false, []⟩
  | _, _ => ⟨[], [], [], [], [], false, []⟩
noncomputable def watershedkit_SameInts_2_tb : List (CE CT Try.prog) := []
noncomputable def watershedkit_SameInts_2_l1 (a : ((List (Int)) × (List (Int)) × (Int) × Unit) × (Unit)) : Option ((((List (Int)) × (List (Int)) × (Int) × Unit) × (Unit)) ⊕ ((((Bool) × Unit) × (Unit)) ⊕ ((Unit) × (Unit)))) :=
  (bif (decide ((a.1.2.2.1 : Int) < (a.1.1.length : Int))) then
  (getI a.1.1 a.1.2.2.1).bind fun e1 =>
  (getI a.1.2.1 a.1.2.2.1).bind fun e2 =>
  (bif (decide ((e1 : Int) ≠ e2)) then
  some (.inr (.inl ((false, ()), ())))
  else
  some (.inl ((a.1.1, a.1.2.1, (IntKind.i64.wrap (a.1.2.2.1 + 1)), ()), ())))
  else
  some (.inr (.inr ((), ()))))
noncomputable def watershedkit_SameInts_2_e1 : LE CT Try.prog := ⟨4, [0, 1, 5], [.one (.sl 0), .one (.sl 0), .one (.int .i64)], [], [⟨.ret, [4], [.one (.bool)], []⟩, ⟨.exit 0, [], [], []⟩], watershedkit_SameInts_2_l1⟩
noncomputable def watershedkit_SameInts_2_lt : List (LE CT Try.prog) := [watershedkit_SameInts_2_e1]
theorem watershedkit_SameInts_2_e1_ok : LeOk watershedkit_SameInts_2_e1 (nthL (bodyOf Try.f68) 0) := fun A env h k z hk => le_ok (E := watershedkit_SameInts_2_e1) (orcOf_ok watershedkit_SameInts_2_tb) (dr := watershedkit_SameInts_2_dr) (lps := lpsOf watershedkit_SameInts_2_lt) (no_loop (by kernel_rfl)) (fun a => by kernel_rfl) env h k z hk
noncomputable def watershedkit_SameInts_2 (x0 : List (Int)) (x1 : List (Int)) : Option ((Bool) × (Unit)) :=
  (bif (decide (((x0.length : Int) : Int) ≠ (x1.length : Int))) then
  some (false, ())
  else
  (loopM watershedkit_SameInts_2_l1 ((x0, x1, 0, ()), ())).bind fun b1 =>
  (match b1 with
  | .inl b2 =>
  some (b2.1.1, ())
  | .inr b3 =>
  some (true, ())))
noncomputable def watershedkit_SameInts_2_ce : CE CT Try.prog where
  f := 68
  args := [.one (.sl 0), .one (.sl 0)]
  hs := []
  res := .val (.one (.bool))
  outs := []
  m := fun d dh => watershedkit_SameInts_2 d.1 d.2.1
  ok := ce_ok mixedP Try.func68 (by kernel_rfl) (orcOf_ok watershedkit_SameInts_2_tb) (dr := watershedkit_SameInts_2_dr) (lps := lpsOf watershedkit_SameInts_2_lt) (lps_fn (lps_of (n := 1) (by kernel_rfl) fun i hi => match i, hi with | 0, _ => lp_ok (E := watershedkit_SameInts_2_e1) (by kernel_rfl) watershedkit_SameInts_2_e1_ok)) (fun d dh => by kernel_rfl)

def watershedkit_SameConfig_2_dr : Nat → Nat → DrA
  | _, _ => ⟨[], [], [], [], [], false, []⟩
noncomputable def watershedkit_SameConfig_2_tb : List (CE CT Try.prog) := [watershedkit_SameInts_2_ce]
noncomputable def watershedkit_SameConfig_2_lt : List (LE CT Try.prog) := []
noncomputable def watershedkit_SameConfig_2 (x0 : DConfig) (x1 : DConfig) : Option ((Bool) × (Unit)) :=
  (watershedkit_SameInts_2 x0.voters x1.voters).bind fun r1 =>
  (bif r1.1 then
  (watershedkit_SameInts_2 x0.old x1.old).bind fun r2 =>
  (bif r2.1 then
  (watershedkit_SameInts_2 x0.learners x1.learners).bind fun r3 =>
  (bif r3.1 then
  (watershedkit_SameInts_2 x0.want x1.want).bind fun r4 =>
  some (r4.1, ())
  else
  some (false, ()))
  else
  some (false, ()))
  else
  some (false, ()))
noncomputable def watershedkit_SameConfig_2_ce : CE CT Try.prog where
  f := 59
  args := [.cod 15, .cod 15]
  hs := []
  res := .val (.one (.bool))
  outs := []
  m := fun d dh => watershedkit_SameConfig_2 d.1 d.2.1
  ok := ce_ok mixedP Try.func59 (by kernel_rfl) (orcOf_ok watershedkit_SameConfig_2_tb) (dr := watershedkit_SameConfig_2_dr) (lps := lpsOf watershedkit_SameConfig_2_lt) (lps_fn (no_loop (by kernel_rfl))) (fun d dh => by kernel_rfl)

def watershedkit_SameInts_3_dr : Nat → Nat → DrA
  | 6, _ => ⟨[0, 1, 2, 4, 5, 6, 3, 7, 8], [[], [], [0, 1], [0, 1, 2], [], [], [4, 5], [4, 5, 6], [0, 1, 2, 3, 4, 5, 6, 7]], [], [], [], false, []⟩
  | _, _ => ⟨[], [], [], [], [], false, []⟩
noncomputable def watershedkit_SameInts_3_tb : List (CE CT Try.prog) := []
noncomputable def watershedkit_SameInts_3_l1 (a : ((Nat) × (List (Int)) × (Int) × Unit) × ((List (Int)) × Unit)) : Option ((((Nat) × (List (Int)) × (Int) × Unit) × ((List (Int)) × Unit)) ⊕ ((((Bool) × Unit) × ((List (Int)) × Unit)) ⊕ ((Unit) × ((List (Int)) × Unit)))) :=
  (bif (decide ((a.1.2.2.1 : Int) < ((a.1.1 : Nat) : Int))) then
  (if 0 ≤ (a.1.2.2.1 : Int) ∧ (a.1.2.2.1 : Int) < ((a.1.1 : Nat) : Int) then
  (getI a.1.2.1 a.1.2.2.1).bind fun e1 =>
  (a.2.1[(0 + (a.1.2.2.1 : Int).toNat)]?).bind fun e2 =>
  (bif (decide ((e2 : Int) ≠ e1)) then
  some (.inr (.inl ((false, ()), (a.2.1, ()))))
  else
  some (.inl ((a.1.1, a.1.2.1, (IntKind.i64.wrap (a.1.2.2.1 + 1)), ()), (a.2.1, ()))))
  else none)
  else
  some (.inr (.inr ((), (a.2.1, ())))))
noncomputable def watershedkit_SameInts_3_e1 : LE CT Try.prog := ⟨4, [0, 1, 5], [.one (.asz 0 0), .one (.sl 0), .one (.int .i64)], [.arr 3 0 true], [⟨.ret, [4], [.one (.bool)], [.arr 3 0 true]⟩, ⟨.exit 0, [], [], [.arr 3 0 true]⟩], watershedkit_SameInts_3_l1⟩
noncomputable def watershedkit_SameInts_3_lt : List (LE CT Try.prog) := [watershedkit_SameInts_3_e1]
theorem watershedkit_SameInts_3_e1_ok : LeOk watershedkit_SameInts_3_e1 (nthL (bodyOf Try.f68) 0) := fun A env h k z hk => le_ok (E := watershedkit_SameInts_3_e1) (orcOf_ok watershedkit_SameInts_3_tb) (dr := watershedkit_SameInts_3_dr) (lps := lpsOf watershedkit_SameInts_3_lt) (no_loop (by kernel_rfl)) (fun a => by kernel_rfl) env h k z hk
noncomputable def watershedkit_SameInts_3 (x0 : Nat) (x1 : List (Int)) (h0 : List (Int)) : Option ((Bool) × ((List (Int)) × Unit)) :=
  (bif (decide ((((x0 : Nat) : Int) : Int) ≠ (x1.length : Int))) then
  some (false, (h0, ()))
  else
  (loopM watershedkit_SameInts_3_l1 ((x0, x1, 0, ()), (h0, ()))).bind fun b1 =>
  (match b1 with
  | .inl b2 =>
  some (b2.1.1, (b2.2.1, ()))
  | .inr b3 =>
  some (true, (b3.2.1, ()))))
noncomputable def watershedkit_SameInts_3_ce : CE CT Try.prog where
  f := 68
  args := [.one (.asz 0 0), .one (.sl 0)]
  hs := [.arr 3 0 true]
  res := .val (.one (.bool))
  outs := [.arr 3 0 true]
  m := fun d dh => watershedkit_SameInts_3 d.1 d.2.1 dh.1
  ok := ce_ok mixedP Try.func68 (by kernel_rfl) (orcOf_ok watershedkit_SameInts_3_tb) (dr := watershedkit_SameInts_3_dr) (lps := lpsOf watershedkit_SameInts_3_lt) (lps_fn (lps_of (n := 1) (by kernel_rfl) fun i hi => match i, hi with | 0, _ => lp_ok (E := watershedkit_SameInts_3_e1) (by kernel_rfl) watershedkit_SameInts_3_e1_ok)) (fun d dh => by kernel_rfl)

def watershedkit_SameConfig_3_dr : Nat → Nat → DrA
  | _, _ => ⟨[], [], [], [], [], false, []⟩
noncomputable def watershedkit_SameConfig_3_tb : List (CE CT Try.prog) := [watershedkit_SameInts_3_ce]
noncomputable def watershedkit_SameConfig_3_lt : List (LE CT Try.prog) := []
noncomputable def watershedkit_SameConfig_3 (x0 : (Nat) × (Nat) × (Nat) × (Nat) × Unit) (x1 : DConfig) (h0 : List (Int)) (h1 : List (Int)) (h2 : List (Int)) (h3 : List (Int)) : Option ((Bool) × ((List (Int)) × (List (Int)) × (List (Int)) × (List (Int)) × Unit)) :=
  (watershedkit_SameInts_3 x0.1 x1.voters h0).bind fun r1 =>
  (bif r1.1 then
  (watershedkit_SameInts_3 x0.2.1 x1.old h1).bind fun r2 =>
  (bif r2.1 then
  (watershedkit_SameInts_3 x0.2.2.1 x1.learners h2).bind fun r3 =>
  (bif r3.1 then
  (watershedkit_SameInts_3 x0.2.2.2.1 x1.want h3).bind fun r4 =>
  some (r4.1, (r1.2.1, r2.2.1, r3.2.1, r4.2.1, ()))
  else
  some (false, (r1.2.1, r2.2.1, r3.2.1, h3, ())))
  else
  some (false, (r1.2.1, r2.2.1, h2, h3, ())))
  else
  some (false, (r1.2.1, h1, h2, h3, ())))
noncomputable def watershedkit_SameConfig_3_ce : CE CT Try.prog where
  f := 59
  args := [.agg [.asz 0 0, .asz 0 1, .asz 0 2, .asz 0 3], .cod 15]
  hs := [.arr 3 0 true, .arr 3 0 true, .arr 3 0 true, .arr 3 0 true]
  res := .val (.one (.bool))
  outs := [.arr 3 0 true, .arr 3 0 true, .arr 3 0 true, .arr 3 0 true]
  m := fun d dh => watershedkit_SameConfig_3 d.1 d.2.1 dh.1 dh.2.1 dh.2.2.1 dh.2.2.2.1
  ok := ce_ok mixedP Try.func59 (by kernel_rfl) (orcOf_ok watershedkit_SameConfig_3_tb) (dr := watershedkit_SameConfig_3_dr) (lps := lpsOf watershedkit_SameConfig_3_lt) (lps_fn (no_loop (by kernel_rfl))) (fun d dh => by kernel_rfl)

def watershedkit_SameBase_2_dr : Nat → Nat → DrA
  | _, _ => ⟨[], [], [], [], [], false, []⟩
noncomputable def watershedkit_SameBase_2_tb : List (CE CT Try.prog) := [watershedkit_SameConfig_3_ce]
noncomputable def watershedkit_SameBase_2_lt : List (LE CT Try.prog) := []
noncomputable def watershedkit_SameBase_2 (x0 : (Int) × (Int) × (Nat) × (Nat) × (Nat) × (Nat) × Unit) (x1 : DBase) (h0 : List (Int)) (h1 : List (Int)) (h2 : List (Int)) (h3 : List (Int)) : Option ((Bool) × ((List (Int)) × (List (Int)) × (List (Int)) × (List (Int)) × Unit)) :=
  (bif (decide ((x0.1 : Int) = x1.index)) then
  (bif (decide ((x0.2.1 : Int) = x1.term_)) then
  (watershedkit_SameConfig_3 (x0.2.2.1, x0.2.2.2.1, x0.2.2.2.2.1, x0.2.2.2.2.2.1, ()) x1.config h0 h1 h2 h3).bind fun r1 =>
  some (r1.1, (r1.2.1, r1.2.2.1, r1.2.2.2.1, r1.2.2.2.2.1, ()))
  else
  some (false, (h0, h1, h2, h3, ())))
  else
  some (false, (h0, h1, h2, h3, ())))
noncomputable def watershedkit_SameBase_2_ce : CE CT Try.prog where
  f := 38
  args := [.agg [.int .i64, .int .i64, .asz 0 0, .asz 0 1, .asz 0 2, .asz 0 3], .cod 18]
  hs := [.arr 3 0 true, .arr 3 0 true, .arr 3 0 true, .arr 3 0 true]
  res := .val (.one (.bool))
  outs := [.arr 3 0 true, .arr 3 0 true, .arr 3 0 true, .arr 3 0 true]
  m := fun d dh => watershedkit_SameBase_2 d.1 d.2.1 dh.1 dh.2.1 dh.2.2.1 dh.2.2.2.1
  ok := ce_ok mixedP Try.func38 (by kernel_rfl) (orcOf_ok watershedkit_SameBase_2_tb) (dr := watershedkit_SameBase_2_dr) (lps := lpsOf watershedkit_SameBase_2_lt) (lps_fn (no_loop (by kernel_rfl))) (fun d dh => by kernel_rfl)

def watershedkit_SameBytes_3_dr : Nat → Nat → DrA
  | 6, _ => ⟨[0, 1, 2, 4, 5, 6, 3, 7, 8], [[], [], [0, 1], [0, 1, 2], [], [], [4, 5], [4, 5, 6], [0, 1, 2, 3, 4, 5, 6, 7]], [], [], [], false, []⟩
  | _, _ => ⟨[], [], [], [], [], false, []⟩
noncomputable def watershedkit_SameBytes_3_tb : List (CE CT Try.prog) := []
noncomputable def watershedkit_SameBytes_3_l1 (a : ((Nat) × (List (UInt8)) × (Int) × Unit) × ((List (UInt8)) × Unit)) : Option ((((Nat) × (List (UInt8)) × (Int) × Unit) × ((List (UInt8)) × Unit)) ⊕ ((((Bool) × Unit) × ((List (UInt8)) × Unit)) ⊕ ((Unit) × ((List (UInt8)) × Unit)))) :=
  (bif (decide ((a.1.2.2.1 : Int) < ((a.1.1 : Nat) : Int))) then
  (if 0 ≤ (a.1.2.2.1 : Int) ∧ (a.1.2.2.1 : Int) < ((a.1.1 : Nat) : Int) then
  (getI a.1.2.1 a.1.2.2.1).bind fun e1 =>
  (a.2.1[(0 + (a.1.2.2.1 : Int).toNat)]?).bind fun e2 =>
  (bif (decide (((e2.toNat : Int) : Int) ≠ (e1.toNat : Int))) then
  some (.inr (.inl ((false, ()), (a.2.1, ()))))
  else
  some (.inl ((a.1.1, a.1.2.1, (IntKind.i64.wrap (a.1.2.2.1 + 1)), ()), (a.2.1, ()))))
  else none)
  else
  some (.inr (.inr ((), (a.2.1, ())))))
noncomputable def watershedkit_SameBytes_3_e1 : LE CT Try.prog := ⟨4, [0, 1, 5], [.one (.asz 1 0), .one (.sl 1), .one (.int .i64)], [.arr 5 1 true], [⟨.ret, [4], [.one (.bool)], [.arr 5 1 true]⟩, ⟨.exit 0, [], [], [.arr 5 1 true]⟩], watershedkit_SameBytes_3_l1⟩
noncomputable def watershedkit_SameBytes_3_lt : List (LE CT Try.prog) := [watershedkit_SameBytes_3_e1]
theorem watershedkit_SameBytes_3_e1_ok : LeOk watershedkit_SameBytes_3_e1 (nthL (bodyOf Try.f39) 0) := fun A env h k z hk => le_ok (E := watershedkit_SameBytes_3_e1) (orcOf_ok watershedkit_SameBytes_3_tb) (dr := watershedkit_SameBytes_3_dr) (lps := lpsOf watershedkit_SameBytes_3_lt) (no_loop (by kernel_rfl)) (fun a => by kernel_rfl) env h k z hk
noncomputable def watershedkit_SameBytes_3 (x0 : Nat) (x1 : List (UInt8)) (h0 : List (UInt8)) : Option ((Bool) × ((List (UInt8)) × Unit)) :=
  (bif (decide ((((x0 : Nat) : Int) : Int) ≠ (x1.length : Int))) then
  some (false, (h0, ()))
  else
  (loopM watershedkit_SameBytes_3_l1 ((x0, x1, 0, ()), (h0, ()))).bind fun b1 =>
  (match b1 with
  | .inl b2 =>
  some (b2.1.1, (b2.2.1, ()))
  | .inr b3 =>
  some (true, (b3.2.1, ()))))
noncomputable def watershedkit_SameBytes_3_ce : CE CT Try.prog where
  f := 39
  args := [.one (.asz 1 0), .one (.sl 1)]
  hs := [.arr 5 1 true]
  res := .val (.one (.bool))
  outs := [.arr 5 1 true]
  m := fun d dh => watershedkit_SameBytes_3 d.1 d.2.1 dh.1
  ok := ce_ok mixedP Try.func39 (by kernel_rfl) (orcOf_ok watershedkit_SameBytes_3_tb) (dr := watershedkit_SameBytes_3_dr) (lps := lpsOf watershedkit_SameBytes_3_lt) (lps_fn (lps_of (n := 1) (by kernel_rfl) fun i hi => match i, hi with | 0, _ => lp_ok (E := watershedkit_SameBytes_3_e1) (by kernel_rfl) watershedkit_SameBytes_3_e1_ok)) (fun d dh => by kernel_rfl)

def watershedkit_OverConfig_dr : Nat → Nat → DrA
  | _, _ => ⟨[], [], [], [], [], false, []⟩
noncomputable def watershedkit_OverConfig_tb : List (CE CT Try.prog) := [watershedkit_OverInts_v_ce]
noncomputable def watershedkit_OverConfig_lt : List (LE CT Try.prog) := []
noncomputable def watershedkit_OverConfig (x0 : (Nat) × (Nat) × (Nat) × (Nat) × Unit) (h0 : List (Int)) (h1 : List (Int)) (h2 : List (Int)) (h3 : List (Int)) : Option ((Unit) × ((List (Int)) × (List (Int)) × (List (Int)) × (List (Int)) × Unit)) :=
  (watershedkit_OverInts_v x0.1 h0).bind fun r1 =>
  (watershedkit_OverInts_v x0.2.1 h1).bind fun r2 =>
  (watershedkit_OverInts_v x0.2.2.1 h2).bind fun r3 =>
  (watershedkit_OverInts_v x0.2.2.2.1 h3).bind fun r4 =>
  some ((), (r1.2.1, r2.2.1, r3.2.1, r4.2.1, ()))
noncomputable def watershedkit_OverConfig_ce : CE CT Try.prog where
  f := 61
  args := [.agg [.asz 0 0, .asz 0 1, .asz 0 2, .asz 0 3]]
  hs := [.arr 3 0 true, .arr 3 0 true, .arr 3 0 true, .arr 3 0 true]
  res := .tup []
  outs := [.arr 3 0 true, .arr 3 0 true, .arr 3 0 true, .arr 3 0 true]
  m := fun d dh => watershedkit_OverConfig d.1 dh.1 dh.2.1 dh.2.2.1 dh.2.2.2.1
  ok := ce_ok mixedP Try.func61 (by kernel_rfl) (orcOf_ok watershedkit_OverConfig_tb) (dr := watershedkit_OverConfig_dr) (lps := lpsOf watershedkit_OverConfig_lt) (lps_fn (no_loop (by kernel_rfl))) (fun d dh => by kernel_rfl)

def watershedkit_OverBase_dr : Nat → Nat → DrA
  | _, _ => ⟨[], [], [], [], [], false, []⟩
noncomputable def watershedkit_OverBase_tb : List (CE CT Try.prog) := [watershedkit_OverConfig_ce]
noncomputable def watershedkit_OverBase_lt : List (LE CT Try.prog) := []
noncomputable def watershedkit_OverBase (x0 : (Int) × (Int) × (Nat) × (Nat) × (Nat) × (Nat) × Unit) (h0 : List (Int)) (h1 : List (Int)) (h2 : List (Int)) (h3 : List (Int)) : Option ((Unit) × ((List (Int)) × (List (Int)) × (List (Int)) × (List (Int)) × Unit)) :=
  (watershedkit_OverConfig (x0.2.2.1, x0.2.2.2.1, x0.2.2.2.2.1, x0.2.2.2.2.2.1, ()) h0 h1 h2 h3).bind fun r1 =>
  some ((), (r1.2.1, r1.2.2.1, r1.2.2.2.1, r1.2.2.2.2.1, ()))
noncomputable def watershedkit_OverBase_ce : CE CT Try.prog where
  f := 41
  args := [.agg [.int .i64, .int .i64, .asz 0 0, .asz 0 1, .asz 0 2, .asz 0 3]]
  hs := [.arr 3 0 true, .arr 3 0 true, .arr 3 0 true, .arr 3 0 true]
  res := .tup []
  outs := [.arr 3 0 true, .arr 3 0 true, .arr 3 0 true, .arr 3 0 true]
  m := fun d dh => watershedkit_OverBase d.1 dh.1 dh.2.1 dh.2.2.1 dh.2.2.2.1
  ok := ce_ok mixedP Try.func41 (by kernel_rfl) (orcOf_ok watershedkit_OverBase_tb) (dr := watershedkit_OverBase_dr) (lps := lpsOf watershedkit_OverBase_lt) (lps_fn (no_loop (by kernel_rfl))) (fun d dh => by kernel_rfl)

def watershedkit_SameBytes_4_dr : Nat → Nat → DrA
  | 6, _ => ⟨[0, 1, 2, 4, 5, 6, 3, 7, 8], [[], [], [0, 1], [0, 1, 2], [], [], [4, 5], [4, 5, 6], [0, 1, 2, 3, 4, 5, 6, 7]], [], [], [], false, []⟩
  | _, _ => ⟨[], [], [], [], [], false, []⟩
noncomputable def watershedkit_SameBytes_4_tb : List (CE CT Try.prog) := []
noncomputable def watershedkit_SameBytes_4_l1 (a : ((Nat × Nat × Nat × Nat × Unit) × (List (UInt8)) × (Int) × Unit) × ((List (DEntryX)) × Unit)) : Option ((((Nat × Nat × Nat × Nat × Unit) × (List (UInt8)) × (Int) × Unit) × ((List (DEntryX)) × Unit)) ⊕ ((((Bool) × Unit) × ((List (DEntryX)) × Unit)) ⊕ ((Unit) × ((List (DEntryX)) × Unit)))) :=
  (bif (decide ((a.1.2.2.1 : Int) < ((a.1.1.2.2.1 : Nat) : Int))) then
  (if 0 ≤ (a.1.2.2.1 : Int) ∧ (a.1.2.2.1 : Int) < ((a.1.1.2.2.1 : Nat) : Int) then
  (getI a.1.2.1 a.1.2.2.1).bind fun e1 =>
  (a.2.1[a.1.1.1]?).bind fun e2 =>
  ((e2.command.1 ++ e2.command.2)[(a.1.1.2.1 + (a.1.2.2.1 : Int).toNat)]?).bind fun e3 =>
  (bif (decide (((e3.toNat : Int) : Int) ≠ (e1.toNat : Int))) then
  some (.inr (.inl ((false, ()), (a.2.1, ()))))
  else
  some (.inl (((a.1.1.1, a.1.1.2.1, a.1.1.2.2.1, a.1.1.2.2.2.1, ()), a.1.2.1, (IntKind.i64.wrap (a.1.2.2.1 + 1)), ()), (a.2.1, ()))))
  else none)
  else
  some (.inr (.inr ((), (a.2.1, ())))))
noncomputable def watershedkit_SameBytes_4_e1 : LE CT Try.prog := ⟨4, [0, 1, 5], [.one (.gv 0 542 4), .one (.sl 1), .one (.int .i64)], [.gen 8 true], [⟨.ret, [4], [.one (.bool)], [.gen 8 true]⟩, ⟨.exit 0, [], [], [.gen 8 true]⟩], watershedkit_SameBytes_4_l1⟩
noncomputable def watershedkit_SameBytes_4_lt : List (LE CT Try.prog) := [watershedkit_SameBytes_4_e1]
theorem watershedkit_SameBytes_4_e1_ok : LeOk watershedkit_SameBytes_4_e1 (nthL (bodyOf Try.f39) 0) := fun A env h k z hk => le_ok (E := watershedkit_SameBytes_4_e1) (orcOfX_ok HK0 watershedkit_SameBytes_4_tb) (dr := watershedkit_SameBytes_4_dr) (lps := lpsOf watershedkit_SameBytes_4_lt) (no_loop (by kernel_rfl)) (fun a => by kernel_rfl) env h k z hk
noncomputable def watershedkit_SameBytes_4 (x0 : Nat × Nat × Nat × Nat × Unit) (x1 : List (UInt8)) (h0 : List (DEntryX)) : Option ((Bool) × ((List (DEntryX)) × Unit)) :=
  (bif (decide ((((x0.2.2.1 : Nat) : Int) : Int) ≠ (x1.length : Int))) then
  some (false, (h0, ()))
  else
  (loopM watershedkit_SameBytes_4_l1 (((x0.1, x0.2.1, x0.2.2.1, x0.2.2.2.1, ()), x1, 0, ()), (h0, ()))).bind fun b1 =>
  (match b1 with
  | .inl b2 =>
  some (b2.1.1, (b2.2.1, ()))
  | .inr b3 =>
  some (true, (b3.2.1, ()))))
noncomputable def watershedkit_SameBytes_4_ce : CE CT Try.prog where
  f := 39
  args := [.one (.gv 0 542 4), .one (.sl 1)]
  hs := [.gen 8 true]
  res := .val (.one (.bool))
  outs := [.gen 8 true]
  m := fun d dh => watershedkit_SameBytes_4 d.1 d.2.1 dh.1
  ok := ce_ok mixedP Try.func39 (by kernel_rfl) (orcOfX_ok HK0 watershedkit_SameBytes_4_tb) (dr := watershedkit_SameBytes_4_dr) (lps := lpsOf watershedkit_SameBytes_4_lt) (lps_fn (lps_of (n := 1) (by kernel_rfl) fun i hi => match i, hi with | 0, _ => lp_ok (E := watershedkit_SameBytes_4_e1) (by kernel_rfl) watershedkit_SameBytes_4_e1_ok)) (fun d dh => by kernel_rfl)

def watershedkit_SameInts_4_dr : Nat → Nat → DrA
  | 6, _ => ⟨[0, 1, 2, 4, 5, 6, 3, 7, 8], [[], [], [0, 1], [0, 1, 2], [], [], [4, 5], [4, 5, 6], [0, 1, 2, 3, 4, 5, 6, 7]], [], [], [], false, []⟩
  | _, _ => ⟨[], [], [], [], [], false, []⟩
noncomputable def watershedkit_SameInts_4_tb : List (CE CT Try.prog) := []
noncomputable def watershedkit_SameInts_4_l1 (a : ((Nat × Nat × Nat × Nat × Unit) × (List (Int)) × (Int) × Unit) × ((List (DEntryX)) × Unit)) : Option ((((Nat × Nat × Nat × Nat × Unit) × (List (Int)) × (Int) × Unit) × ((List (DEntryX)) × Unit)) ⊕ ((((Bool) × Unit) × ((List (DEntryX)) × Unit)) ⊕ ((Unit) × ((List (DEntryX)) × Unit)))) :=
  (bif (decide ((a.1.2.2.1 : Int) < ((a.1.1.2.2.1 : Nat) : Int))) then
  (if 0 ≤ (a.1.2.2.1 : Int) ∧ (a.1.2.2.1 : Int) < ((a.1.1.2.2.1 : Nat) : Int) then
  (getI a.1.2.1 a.1.2.2.1).bind fun e1 =>
  (a.2.1[a.1.1.1]?).bind fun e2 =>
  ((e2.config.voters.1 ++ e2.config.voters.2)[(a.1.1.2.1 + (a.1.2.2.1 : Int).toNat)]?).bind fun e3 =>
  (bif (decide ((e3 : Int) ≠ e1)) then
  some (.inr (.inl ((false, ()), (a.2.1, ()))))
  else
  some (.inl (((a.1.1.1, a.1.1.2.1, a.1.1.2.2.1, a.1.1.2.2.2.1, ()), a.1.2.1, (IntKind.i64.wrap (a.1.2.2.1 + 1)), ()), (a.2.1, ()))))
  else none)
  else
  some (.inr (.inr ((), (a.2.1, ())))))
noncomputable def watershedkit_SameInts_4_e1 : LE CT Try.prog := ⟨4, [0, 1, 5], [.one (.gv 0 798 4), .one (.sl 0), .one (.int .i64)], [.gen 8 true], [⟨.ret, [4], [.one (.bool)], [.gen 8 true]⟩, ⟨.exit 0, [], [], [.gen 8 true]⟩], watershedkit_SameInts_4_l1⟩
noncomputable def watershedkit_SameInts_4_lt : List (LE CT Try.prog) := [watershedkit_SameInts_4_e1]
theorem watershedkit_SameInts_4_e1_ok : LeOk watershedkit_SameInts_4_e1 (nthL (bodyOf Try.f68) 0) := fun A env h k z hk => le_ok (E := watershedkit_SameInts_4_e1) (orcOfX_ok HK0 watershedkit_SameInts_4_tb) (dr := watershedkit_SameInts_4_dr) (lps := lpsOf watershedkit_SameInts_4_lt) (no_loop (by kernel_rfl)) (fun a => by kernel_rfl) env h k z hk
noncomputable def watershedkit_SameInts_4 (x0 : Nat × Nat × Nat × Nat × Unit) (x1 : List (Int)) (h0 : List (DEntryX)) : Option ((Bool) × ((List (DEntryX)) × Unit)) :=
  (bif (decide ((((x0.2.2.1 : Nat) : Int) : Int) ≠ (x1.length : Int))) then
  some (false, (h0, ()))
  else
  (loopM watershedkit_SameInts_4_l1 (((x0.1, x0.2.1, x0.2.2.1, x0.2.2.2.1, ()), x1, 0, ()), (h0, ()))).bind fun b1 =>
  (match b1 with
  | .inl b2 =>
  some (b2.1.1, (b2.2.1, ()))
  | .inr b3 =>
  some (true, (b3.2.1, ()))))
noncomputable def watershedkit_SameInts_4_ce : CE CT Try.prog where
  f := 68
  args := [.one (.gv 0 798 4), .one (.sl 0)]
  hs := [.gen 8 true]
  res := .val (.one (.bool))
  outs := [.gen 8 true]
  m := fun d dh => watershedkit_SameInts_4 d.1 d.2.1 dh.1
  ok := ce_ok mixedP Try.func68 (by kernel_rfl) (orcOfX_ok HK0 watershedkit_SameInts_4_tb) (dr := watershedkit_SameInts_4_dr) (lps := lpsOf watershedkit_SameInts_4_lt) (lps_fn (lps_of (n := 1) (by kernel_rfl) fun i hi => match i, hi with | 0, _ => lp_ok (E := watershedkit_SameInts_4_e1) (by kernel_rfl) watershedkit_SameInts_4_e1_ok)) (fun d dh => by kernel_rfl)

def watershedkit_SameInts_5_dr : Nat → Nat → DrA
  | 6, _ => ⟨[0, 1, 2, 4, 5, 6, 3, 7, 8], [[], [], [0, 1], [0, 1, 2], [], [], [4, 5], [4, 5, 6], [0, 1, 2, 3, 4, 5, 6, 7]], [], [], [], false, []⟩
  | _, _ => ⟨[], [], [], [], [], false, []⟩
noncomputable def watershedkit_SameInts_5_tb : List (CE CT Try.prog) := []
noncomputable def watershedkit_SameInts_5_l1 (a : ((Nat × Nat × Nat × Nat × Unit) × (List (Int)) × (Int) × Unit) × ((List (DEntryX)) × Unit)) : Option ((((Nat × Nat × Nat × Nat × Unit) × (List (Int)) × (Int) × Unit) × ((List (DEntryX)) × Unit)) ⊕ ((((Bool) × Unit) × ((List (DEntryX)) × Unit)) ⊕ ((Unit) × ((List (DEntryX)) × Unit)))) :=
  (bif (decide ((a.1.2.2.1 : Int) < ((a.1.1.2.2.1 : Nat) : Int))) then
  (if 0 ≤ (a.1.2.2.1 : Int) ∧ (a.1.2.2.1 : Int) < ((a.1.1.2.2.1 : Nat) : Int) then
  (getI a.1.2.1 a.1.2.2.1).bind fun e1 =>
  (a.2.1[a.1.1.1]?).bind fun e2 =>
  ((e2.config.old.1 ++ e2.config.old.2)[(a.1.1.2.1 + (a.1.2.2.1 : Int).toNat)]?).bind fun e3 =>
  (bif (decide ((e3 : Int) ≠ e1)) then
  some (.inr (.inl ((false, ()), (a.2.1, ()))))
  else
  some (.inl (((a.1.1.1, a.1.1.2.1, a.1.1.2.2.1, a.1.1.2.2.2.1, ()), a.1.2.1, (IntKind.i64.wrap (a.1.2.2.1 + 1)), ()), (a.2.1, ()))))
  else none)
  else
  some (.inr (.inr ((), (a.2.1, ())))))
noncomputable def watershedkit_SameInts_5_e1 : LE CT Try.prog := ⟨4, [0, 1, 5], [.one (.gv 0 1054 4), .one (.sl 0), .one (.int .i64)], [.gen 8 true], [⟨.ret, [4], [.one (.bool)], [.gen 8 true]⟩, ⟨.exit 0, [], [], [.gen 8 true]⟩], watershedkit_SameInts_5_l1⟩
noncomputable def watershedkit_SameInts_5_lt : List (LE CT Try.prog) := [watershedkit_SameInts_5_e1]
theorem watershedkit_SameInts_5_e1_ok : LeOk watershedkit_SameInts_5_e1 (nthL (bodyOf Try.f68) 0) := fun A env h k z hk => le_ok (E := watershedkit_SameInts_5_e1) (orcOfX_ok HK0 watershedkit_SameInts_5_tb) (dr := watershedkit_SameInts_5_dr) (lps := lpsOf watershedkit_SameInts_5_lt) (no_loop (by kernel_rfl)) (fun a => by kernel_rfl) env h k z hk
noncomputable def watershedkit_SameInts_5 (x0 : Nat × Nat × Nat × Nat × Unit) (x1 : List (Int)) (h0 : List (DEntryX)) : Option ((Bool) × ((List (DEntryX)) × Unit)) :=
  (bif (decide ((((x0.2.2.1 : Nat) : Int) : Int) ≠ (x1.length : Int))) then
  some (false, (h0, ()))
  else
  (loopM watershedkit_SameInts_5_l1 (((x0.1, x0.2.1, x0.2.2.1, x0.2.2.2.1, ()), x1, 0, ()), (h0, ()))).bind fun b1 =>
  (match b1 with
  | .inl b2 =>
  some (b2.1.1, (b2.2.1, ()))
  | .inr b3 =>
  some (true, (b3.2.1, ()))))
noncomputable def watershedkit_SameInts_5_ce : CE CT Try.prog where
  f := 68
  args := [.one (.gv 0 1054 4), .one (.sl 0)]
  hs := [.gen 8 true]
  res := .val (.one (.bool))
  outs := [.gen 8 true]
  m := fun d dh => watershedkit_SameInts_5 d.1 d.2.1 dh.1
  ok := ce_ok mixedP Try.func68 (by kernel_rfl) (orcOfX_ok HK0 watershedkit_SameInts_5_tb) (dr := watershedkit_SameInts_5_dr) (lps := lpsOf watershedkit_SameInts_5_lt) (lps_fn (lps_of (n := 1) (by kernel_rfl) fun i hi => match i, hi with | 0, _ => lp_ok (E := watershedkit_SameInts_5_e1) (by kernel_rfl) watershedkit_SameInts_5_e1_ok)) (fun d dh => by kernel_rfl)

def watershedkit_SameInts_6_dr : Nat → Nat → DrA
  | 6, _ => ⟨[0, 1, 2, 4, 5, 6, 3, 7, 8], [[], [], [0, 1], [0, 1, 2], [], [], [4, 5], [4, 5, 6], [0, 1, 2, 3, 4, 5, 6, 7]], [], [], [], false, []⟩
  | _, _ => ⟨[], [], [], [], [], false, []⟩
noncomputable def watershedkit_SameInts_6_tb : List (CE CT Try.prog) := []
noncomputable def watershedkit_SameInts_6_l1 (a : ((Nat × Nat × Nat × Nat × Unit) × (List (Int)) × (Int) × Unit) × ((List (DEntryX)) × Unit)) : Option ((((Nat × Nat × Nat × Nat × Unit) × (List (Int)) × (Int) × Unit) × ((List (DEntryX)) × Unit)) ⊕ ((((Bool) × Unit) × ((List (DEntryX)) × Unit)) ⊕ ((Unit) × ((List (DEntryX)) × Unit)))) :=
  (bif (decide ((a.1.2.2.1 : Int) < ((a.1.1.2.2.1 : Nat) : Int))) then
  (if 0 ≤ (a.1.2.2.1 : Int) ∧ (a.1.2.2.1 : Int) < ((a.1.1.2.2.1 : Nat) : Int) then
  (getI a.1.2.1 a.1.2.2.1).bind fun e1 =>
  (a.2.1[a.1.1.1]?).bind fun e2 =>
  ((e2.config.learners.1 ++ e2.config.learners.2)[(a.1.1.2.1 + (a.1.2.2.1 : Int).toNat)]?).bind fun e3 =>
  (bif (decide ((e3 : Int) ≠ e1)) then
  some (.inr (.inl ((false, ()), (a.2.1, ()))))
  else
  some (.inl (((a.1.1.1, a.1.1.2.1, a.1.1.2.2.1, a.1.1.2.2.2.1, ()), a.1.2.1, (IntKind.i64.wrap (a.1.2.2.1 + 1)), ()), (a.2.1, ()))))
  else none)
  else
  some (.inr (.inr ((), (a.2.1, ())))))
noncomputable def watershedkit_SameInts_6_e1 : LE CT Try.prog := ⟨4, [0, 1, 5], [.one (.gv 0 1310 4), .one (.sl 0), .one (.int .i64)], [.gen 8 true], [⟨.ret, [4], [.one (.bool)], [.gen 8 true]⟩, ⟨.exit 0, [], [], [.gen 8 true]⟩], watershedkit_SameInts_6_l1⟩
noncomputable def watershedkit_SameInts_6_lt : List (LE CT Try.prog) := [watershedkit_SameInts_6_e1]
theorem watershedkit_SameInts_6_e1_ok : LeOk watershedkit_SameInts_6_e1 (nthL (bodyOf Try.f68) 0) := fun A env h k z hk => le_ok (E := watershedkit_SameInts_6_e1) (orcOfX_ok HK0 watershedkit_SameInts_6_tb) (dr := watershedkit_SameInts_6_dr) (lps := lpsOf watershedkit_SameInts_6_lt) (no_loop (by kernel_rfl)) (fun a => by kernel_rfl) env h k z hk
noncomputable def watershedkit_SameInts_6 (x0 : Nat × Nat × Nat × Nat × Unit) (x1 : List (Int)) (h0 : List (DEntryX)) : Option ((Bool) × ((List (DEntryX)) × Unit)) :=
  (bif (decide ((((x0.2.2.1 : Nat) : Int) : Int) ≠ (x1.length : Int))) then
  some (false, (h0, ()))
  else
  (loopM watershedkit_SameInts_6_l1 (((x0.1, x0.2.1, x0.2.2.1, x0.2.2.2.1, ()), x1, 0, ()), (h0, ()))).bind fun b1 =>
  (match b1 with
  | .inl b2 =>
  some (b2.1.1, (b2.2.1, ()))
  | .inr b3 =>
  some (true, (b3.2.1, ()))))
noncomputable def watershedkit_SameInts_6_ce : CE CT Try.prog where
  f := 68
  args := [.one (.gv 0 1310 4), .one (.sl 0)]
  hs := [.gen 8 true]
  res := .val (.one (.bool))
  outs := [.gen 8 true]
  m := fun d dh => watershedkit_SameInts_6 d.1 d.2.1 dh.1
  ok := ce_ok mixedP Try.func68 (by kernel_rfl) (orcOfX_ok HK0 watershedkit_SameInts_6_tb) (dr := watershedkit_SameInts_6_dr) (lps := lpsOf watershedkit_SameInts_6_lt) (lps_fn (lps_of (n := 1) (by kernel_rfl) fun i hi => match i, hi with | 0, _ => lp_ok (E := watershedkit_SameInts_6_e1) (by kernel_rfl) watershedkit_SameInts_6_e1_ok)) (fun d dh => by kernel_rfl)

def watershedkit_SameInts_7_dr : Nat → Nat → DrA
  | 6, _ => ⟨[0, 1, 2, 4, 5, 6, 3, 7, 8], [[], [], [0, 1], [0, 1, 2], [], [], [4, 5], [4, 5, 6], [0, 1, 2, 3, 4, 5, 6, 7]], [], [], [], false, []⟩
  | _, _ => ⟨[], [], [], [], [], false, []⟩
noncomputable def watershedkit_SameInts_7_tb : List (CE CT Try.prog) := []
noncomputable def watershedkit_SameInts_7_l1 (a : ((Nat × Nat × Nat × Nat × Unit) × (List (Int)) × (Int) × Unit) × ((List (DEntryX)) × Unit)) : Option ((((Nat × Nat × Nat × Nat × Unit) × (List (Int)) × (Int) × Unit) × ((List (DEntryX)) × Unit)) ⊕ ((((Bool) × Unit) × ((List (DEntryX)) × Unit)) ⊕ ((Unit) × ((List (DEntryX)) × Unit)))) :=
  (bif (decide ((a.1.2.2.1 : Int) < ((a.1.1.2.2.1 : Nat) : Int))) then
  (if 0 ≤ (a.1.2.2.1 : Int) ∧ (a.1.2.2.1 : Int) < ((a.1.1.2.2.1 : Nat) : Int) then
  (getI a.1.2.1 a.1.2.2.1).bind fun e1 =>
  (a.2.1[a.1.1.1]?).bind fun e2 =>
  ((e2.config.want.1 ++ e2.config.want.2)[(a.1.1.2.1 + (a.1.2.2.1 : Int).toNat)]?).bind fun e3 =>
  (bif (decide ((e3 : Int) ≠ e1)) then
  some (.inr (.inl ((false, ()), (a.2.1, ()))))
  else
  some (.inl (((a.1.1.1, a.1.1.2.1, a.1.1.2.2.1, a.1.1.2.2.2.1, ()), a.1.2.1, (IntKind.i64.wrap (a.1.2.2.1 + 1)), ()), (a.2.1, ()))))
  else none)
  else
  some (.inr (.inr ((), (a.2.1, ())))))
noncomputable def watershedkit_SameInts_7_e1 : LE CT Try.prog := ⟨4, [0, 1, 5], [.one (.gv 0 1566 4), .one (.sl 0), .one (.int .i64)], [.gen 8 true], [⟨.ret, [4], [.one (.bool)], [.gen 8 true]⟩, ⟨.exit 0, [], [], [.gen 8 true]⟩], watershedkit_SameInts_7_l1⟩
noncomputable def watershedkit_SameInts_7_lt : List (LE CT Try.prog) := [watershedkit_SameInts_7_e1]
theorem watershedkit_SameInts_7_e1_ok : LeOk watershedkit_SameInts_7_e1 (nthL (bodyOf Try.f68) 0) := fun A env h k z hk => le_ok (E := watershedkit_SameInts_7_e1) (orcOfX_ok HK0 watershedkit_SameInts_7_tb) (dr := watershedkit_SameInts_7_dr) (lps := lpsOf watershedkit_SameInts_7_lt) (no_loop (by kernel_rfl)) (fun a => by kernel_rfl) env h k z hk
noncomputable def watershedkit_SameInts_7 (x0 : Nat × Nat × Nat × Nat × Unit) (x1 : List (Int)) (h0 : List (DEntryX)) : Option ((Bool) × ((List (DEntryX)) × Unit)) :=
  (bif (decide ((((x0.2.2.1 : Nat) : Int) : Int) ≠ (x1.length : Int))) then
  some (false, (h0, ()))
  else
  (loopM watershedkit_SameInts_7_l1 (((x0.1, x0.2.1, x0.2.2.1, x0.2.2.2.1, ()), x1, 0, ()), (h0, ()))).bind fun b1 =>
  (match b1 with
  | .inl b2 =>
  some (b2.1.1, (b2.2.1, ()))
  | .inr b3 =>
  some (true, (b3.2.1, ()))))
noncomputable def watershedkit_SameInts_7_ce : CE CT Try.prog where
  f := 68
  args := [.one (.gv 0 1566 4), .one (.sl 0)]
  hs := [.gen 8 true]
  res := .val (.one (.bool))
  outs := [.gen 8 true]
  m := fun d dh => watershedkit_SameInts_7 d.1 d.2.1 dh.1
  ok := ce_ok mixedP Try.func68 (by kernel_rfl) (orcOfX_ok HK0 watershedkit_SameInts_7_tb) (dr := watershedkit_SameInts_7_dr) (lps := lpsOf watershedkit_SameInts_7_lt) (lps_fn (lps_of (n := 1) (by kernel_rfl) fun i hi => match i, hi with | 0, _ => lp_ok (E := watershedkit_SameInts_7_e1) (by kernel_rfl) watershedkit_SameInts_7_e1_ok)) (fun d dh => by kernel_rfl)

def watershedkit_SameConfig_4_dr : Nat → Nat → DrA
  | _, _ => ⟨[], [], [], [], [], false, []⟩
noncomputable def watershedkit_SameConfig_4_tb : List (CE CT Try.prog) := [watershedkit_SameInts_4_ce, watershedkit_SameInts_5_ce, watershedkit_SameInts_6_ce, watershedkit_SameInts_7_ce]
noncomputable def watershedkit_SameConfig_4_lt : List (LE CT Try.prog) := []
noncomputable def watershedkit_SameConfig_4 (x0 : (Nat × Nat × Nat × Nat × Unit) × (Nat × Nat × Nat × Nat × Unit) × (Nat × Nat × Nat × Nat × Unit) × (Nat × Nat × Nat × Nat × Unit) × Unit) (x1 : DConfig) (h0 : List (DEntryX)) : Option ((Bool) × ((List (DEntryX)) × Unit)) :=
  (watershedkit_SameInts_4 (x0.1.1, x0.1.2.1, x0.1.2.2.1, x0.1.2.2.2.1, ()) x1.voters h0).bind fun r1 =>
  (bif r1.1 then
  (watershedkit_SameInts_5 (x0.2.1.1, x0.2.1.2.1, x0.2.1.2.2.1, x0.2.1.2.2.2.1, ()) x1.old r1.2.1).bind fun r2 =>
  (bif r2.1 then
  (watershedkit_SameInts_6 (x0.2.2.1.1, x0.2.2.1.2.1, x0.2.2.1.2.2.1, x0.2.2.1.2.2.2.1, ()) x1.learners r2.2.1).bind fun r3 =>
  (bif r3.1 then
  (watershedkit_SameInts_7 (x0.2.2.2.1.1, x0.2.2.2.1.2.1, x0.2.2.2.1.2.2.1, x0.2.2.2.1.2.2.2.1, ()) x1.want r3.2.1).bind fun r4 =>
  some (r4.1, (r4.2.1, ()))
  else
  some (false, (r3.2.1, ())))
  else
  some (false, (r2.2.1, ())))
  else
  some (false, (r1.2.1, ())))
noncomputable def watershedkit_SameConfig_4_ce : CE CT Try.prog where
  f := 59
  args := [.agg [.gv 0 798 4, .gv 0 1054 4, .gv 0 1310 4, .gv 0 1566 4], .cod 15]
  hs := [.gen 8 true]
  res := .val (.one (.bool))
  outs := [.gen 8 true]
  m := fun d dh => watershedkit_SameConfig_4 d.1 d.2.1 dh.1
  ok := ce_ok mixedP Try.func59 (by kernel_rfl) (orcOf_ok watershedkit_SameConfig_4_tb) (dr := watershedkit_SameConfig_4_dr) (lps := lpsOf watershedkit_SameConfig_4_lt) (lps_fn (no_loop (by kernel_rfl))) (fun d dh => by kernel_rfl)

def watershedkit_SameEntry_2_dr : Nat → Nat → DrA
  | _, _ => ⟨[], [], [], [], [], false, []⟩
noncomputable def watershedkit_SameEntry_2_tb : List (CE CT Try.prog) := [watershedkit_SameBytes_4_ce, watershedkit_SameConfig_4_ce]
noncomputable def watershedkit_SameEntry_2_lt : List (LE CT Try.prog) := []
noncomputable def watershedkit_SameEntry_2 (x0 : (Int) × (Int) × (Nat × Nat × Nat × Nat × Unit) × (Nat × Nat × Nat × Nat × Unit) × (Nat × Nat × Nat × Nat × Unit) × (Nat × Nat × Nat × Nat × Unit) × (Nat × Nat × Nat × Nat × Unit) × Unit) (x1 : DEntry) (h0 : List (DEntryX)) : Option ((Bool) × ((List (DEntryX)) × Unit)) :=
  (bif (decide ((x0.1 : Int) = x1.term_)) then
  (bif (decide ((x0.2.1 : Int) = x1.kind)) then
  (watershedkit_SameBytes_4 (x0.2.2.1.1, x0.2.2.1.2.1, x0.2.2.1.2.2.1, x0.2.2.1.2.2.2.1, ()) x1.command h0).bind fun r1 =>
  (bif r1.1 then
  (watershedkit_SameConfig_4 ((x0.2.2.2.1.1, x0.2.2.2.1.2.1, x0.2.2.2.1.2.2.1, x0.2.2.2.1.2.2.2.1, ()), (x0.2.2.2.2.1.1, x0.2.2.2.2.1.2.1, x0.2.2.2.2.1.2.2.1, x0.2.2.2.2.1.2.2.2.1, ()), (x0.2.2.2.2.2.1.1, x0.2.2.2.2.2.1.2.1, x0.2.2.2.2.2.1.2.2.1, x0.2.2.2.2.2.1.2.2.2.1, ()), (x0.2.2.2.2.2.2.1.1, x0.2.2.2.2.2.2.1.2.1, x0.2.2.2.2.2.2.1.2.2.1, x0.2.2.2.2.2.2.1.2.2.2.1, ()), ()) x1.config r1.2.1).bind fun r2 =>
  some (r2.1, (r2.2.1, ()))
  else
  some (false, (r1.2.1, ())))
  else
  some (false, (h0, ())))
  else
  some (false, (h0, ())))
noncomputable def watershedkit_SameEntry_2_ce : CE CT Try.prog where
  f := 58
  args := [.agg [.int .i64, .int .u8, .gv 0 542 4, .gv 0 798 4, .gv 0 1054 4, .gv 0 1310 4, .gv 0 1566 4], .cod 16]
  hs := [.gen 8 true]
  res := .val (.one (.bool))
  outs := [.gen 8 true]
  m := fun d dh => watershedkit_SameEntry_2 d.1 d.2.1 dh.1
  ok := ce_ok mixedP Try.func58 (by kernel_rfl) (orcOf_ok watershedkit_SameEntry_2_tb) (dr := watershedkit_SameEntry_2_dr) (lps := lpsOf watershedkit_SameEntry_2_lt) (lps_fn (no_loop (by kernel_rfl))) (fun d dh => by kernel_rfl)

def watershedkit_SameEntries_2_dr : Nat → Nat → DrA
  | 6, _ => ⟨[0, 1, 2, 4, 5, 6, 3, 7, 8, 9], [[], [], [0, 1], [0, 1, 2], [], [], [4, 5], [4, 5, 6], [0, 1, 2, 3, 4, 5, 6, 7], [0, 1, 2, 3, 4, 5, 6, 7, 8]], [], [], [], false, []⟩
  | _, _ => ⟨[], [], [], [], [], false, []⟩
noncomputable def watershedkit_SameEntries_2_tb : List (CE CT Try.prog) := [watershedkit_SameEntry_2_ce]
noncomputable def watershedkit_SameEntries_2_l1 (a : ((Nat × Nat × Nat × Unit) × (List (DEntry)) × (Int) × Unit) × ((List (DEntryX)) × Unit)) : Option ((((Nat × Nat × Nat × Unit) × (List (DEntry)) × (Int) × Unit) × ((List (DEntryX)) × Unit)) ⊕ ((((Bool) × Unit) × ((List (DEntryX)) × Unit)) ⊕ ((Unit) × ((List (DEntryX)) × Unit)))) :=
  (bif (decide ((a.1.2.2.1 : Int) < ((a.1.1.2.1 : Nat) : Int))) then
  (if 0 ≤ (a.1.2.2.1 : Int) ∧ (a.1.2.2.1 : Int) < ((a.1.1.2.1 : Nat) : Int) then
  (getI a.1.2.1 a.1.2.2.1).bind fun e1 =>
  (a.2.1[(a.1.1.1 + (a.1.2.2.1 : Int).toNat)]?).bind fun e2 =>
  (watershedkit_SameEntry_2 (e2.term_, e2.kind, ((a.1.1.1 + (a.1.2.2.1 : Int).toNat), 0, e2.command.1.length, (e2.command.1.length + e2.command.2.length), ()), ((a.1.1.1 + (a.1.2.2.1 : Int).toNat), 0, e2.config.voters.1.length, (e2.config.voters.1.length + e2.config.voters.2.length), ()), ((a.1.1.1 + (a.1.2.2.1 : Int).toNat), 0, e2.config.old.1.length, (e2.config.old.1.length + e2.config.old.2.length), ()), ((a.1.1.1 + (a.1.2.2.1 : Int).toNat), 0, e2.config.learners.1.length, (e2.config.learners.1.length + e2.config.learners.2.length), ()), ((a.1.1.1 + (a.1.2.2.1 : Int).toNat), 0, e2.config.want.1.length, (e2.config.want.1.length + e2.config.want.2.length), ()), ()) e1 a.2.1).bind fun r3 =>
  (bif (!r3.1) then
  some (.inr (.inl ((false, ()), (r3.2.1, ()))))
  else
  some (.inl (((a.1.1.1, a.1.1.2.1, a.1.1.2.2.1, ()), a.1.2.1, (IntKind.i64.wrap (a.1.2.2.1 + 1)), ()), (r3.2.1, ()))))
  else none)
  else
  some (.inr (.inr ((), (a.2.1, ())))))
noncomputable def watershedkit_SameEntries_2_e1 : LE CT Try.prog := ⟨4, [0, 1, 5], [.one (.gv 0 28 3), .one (.sl 16), .one (.int .i64)], [.gen 8 true], [⟨.ret, [4], [.one (.bool)], [.gen 8 true]⟩, ⟨.exit 0, [], [], [.gen 8 true]⟩], watershedkit_SameEntries_2_l1⟩
noncomputable def watershedkit_SameEntries_2_lt : List (LE CT Try.prog) := [watershedkit_SameEntries_2_e1]
theorem watershedkit_SameEntries_2_e1_ok : LeOk watershedkit_SameEntries_2_e1 (nthL (bodyOf Try.f37) 0) := fun A env h k z hk => le_ok (E := watershedkit_SameEntries_2_e1) (orcOfX_ok HK0 watershedkit_SameEntries_2_tb) (dr := watershedkit_SameEntries_2_dr) (lps := lpsOf watershedkit_SameEntries_2_lt) (no_loop (by kernel_rfl)) (fun a => by kernel_rfl) env h k z hk
noncomputable def watershedkit_SameEntries_2 (x0 : Nat × Nat × Nat × Unit) (x1 : List (DEntry)) (h0 : List (DEntryX)) : Option ((Bool) × ((List (DEntryX)) × Unit)) :=
  (bif (decide ((((x0.2.1 : Nat) : Int) : Int) ≠ (x1.length : Int))) then
  some (false, (h0, ()))
  else
  (loopM watershedkit_SameEntries_2_l1 (((x0.1, x0.2.1, x0.2.2.1, ()), x1, 0, ()), (h0, ()))).bind fun b1 =>
  (match b1 with
  | .inl b2 =>
  some (b2.1.1, (b2.2.1, ()))
  | .inr b3 =>
  some (true, (b3.2.1, ()))))
noncomputable def watershedkit_SameEntries_2_ce : CE CT Try.prog where
  f := 37
  args := [.one (.gv 0 28 3), .one (.sl 16)]
  hs := [.gen 8 true]
  res := .val (.one (.bool))
  outs := [.gen 8 true]
  m := fun d dh => watershedkit_SameEntries_2 d.1 d.2.1 dh.1
  ok := ce_ok mixedP Try.func37 (by kernel_rfl) (orcOfX_ok HK0 watershedkit_SameEntries_2_tb) (dr := watershedkit_SameEntries_2_dr) (lps := lpsOf watershedkit_SameEntries_2_lt) (lps_fn (lps_of (n := 1) (by kernel_rfl) fun i hi => match i, hi with | 0, _ => lp_ok (E := watershedkit_SameEntries_2_e1) (by kernel_rfl) watershedkit_SameEntries_2_e1_ok)) (fun d dh => by kernel_rfl)

def watershedkit_SameInts_8_dr : Nat → Nat → DrA
  | 6, _ => ⟨[0, 1, 2, 4, 5, 6, 3, 7, 8], [[], [], [0, 1], [0, 1, 2], [], [], [4, 5], [4, 5, 6], [0, 1, 2, 3, 4, 5, 6, 7]], [], [], [], false, []⟩
  | _, _ => ⟨[], [], [], [], [], false, []⟩
noncomputable def watershedkit_SameInts_8_tb : List (CE CT Try.prog) := []
noncomputable def watershedkit_SameInts_8_l1 (a : ((Nat × Nat × Nat) × (List (Int)) × (Int) × Unit) × ((List (Int)) × Unit)) : Option ((((Nat × Nat × Nat) × (List (Int)) × (Int) × Unit) × ((List (Int)) × Unit)) ⊕ ((((Bool) × Unit) × ((List (Int)) × Unit)) ⊕ ((Unit) × ((List (Int)) × Unit)))) :=
  (bif (decide ((a.1.2.2.1 : Int) < ((a.1.1.2.1 : Nat) : Int))) then
  (if 0 ≤ (a.1.2.2.1 : Int) ∧ (a.1.2.2.1 : Int) < ((a.1.1.2.1 : Nat) : Int) then
  (getI a.1.2.1 a.1.2.2.1).bind fun e1 =>
  (a.2.1[(a.1.1.1 + (a.1.2.2.1 : Int).toNat)]?).bind fun e2 =>
  (bif (decide ((e2 : Int) ≠ e1)) then
  some (.inr (.inl ((false, ()), (a.2.1, ()))))
  else
  some (.inl (((a.1.1.1, a.1.1.2.1, a.1.1.2.2), a.1.2.1, (IntKind.i64.wrap (a.1.2.2.1 + 1)), ()), (a.2.1, ()))))
  else none)
  else
  some (.inr (.inr ((), (a.2.1, ())))))
noncomputable def watershedkit_SameInts_8_e1 : LE CT Try.prog := ⟨4, [0, 1, 5], [.one (.as 0 0), .one (.sl 0), .one (.int .i64)], [.arr 3 0 true], [⟨.ret, [4], [.one (.bool)], [.arr 3 0 true]⟩, ⟨.exit 0, [], [], [.arr 3 0 true]⟩], watershedkit_SameInts_8_l1⟩
noncomputable def watershedkit_SameInts_8_lt : List (LE CT Try.prog) := [watershedkit_SameInts_8_e1]
theorem watershedkit_SameInts_8_e1_ok : LeOk watershedkit_SameInts_8_e1 (nthL (bodyOf Try.f68) 0) := fun A env h k z hk => le_ok (E := watershedkit_SameInts_8_e1) (orcOf_ok watershedkit_SameInts_8_tb) (dr := watershedkit_SameInts_8_dr) (lps := lpsOf watershedkit_SameInts_8_lt) (no_loop (by kernel_rfl)) (fun a => by kernel_rfl) env h k z hk
noncomputable def watershedkit_SameInts_8 (x0 : Nat × Nat × Nat) (x1 : List (Int)) (h0 : List (Int)) : Option ((Bool) × ((List (Int)) × Unit)) :=
  (bif (decide ((((x0.2.1 : Nat) : Int) : Int) ≠ (x1.length : Int))) then
  some (false, (h0, ()))
  else
  (loopM watershedkit_SameInts_8_l1 (((x0.1, x0.2.1, x0.2.2), x1, 0, ()), (h0, ()))).bind fun b1 =>
  (match b1 with
  | .inl b2 =>
  some (b2.1.1, (b2.2.1, ()))
  | .inr b3 =>
  some (true, (b3.2.1, ()))))
noncomputable def watershedkit_SameInts_8_ce : CE CT Try.prog where
  f := 68
  args := [.one (.as 0 0), .one (.sl 0)]
  hs := [.arr 3 0 true]
  res := .val (.one (.bool))
  outs := [.arr 3 0 true]
  m := fun d dh => watershedkit_SameInts_8 d.1 d.2.1 dh.1
  ok := ce_ok mixedP Try.func68 (by kernel_rfl) (orcOf_ok watershedkit_SameInts_8_tb) (dr := watershedkit_SameInts_8_dr) (lps := lpsOf watershedkit_SameInts_8_lt) (lps_fn (lps_of (n := 1) (by kernel_rfl) fun i hi => match i, hi with | 0, _ => lp_ok (E := watershedkit_SameInts_8_e1) (by kernel_rfl) watershedkit_SameInts_8_e1_ok)) (fun d dh => by kernel_rfl)

def watershedkit_SameConfig_5_dr : Nat → Nat → DrA
  | _, _ => ⟨[], [], [], [], [], false, []⟩
noncomputable def watershedkit_SameConfig_5_tb : List (CE CT Try.prog) := [watershedkit_SameInts_8_ce]
noncomputable def watershedkit_SameConfig_5_lt : List (LE CT Try.prog) := []
noncomputable def watershedkit_SameConfig_5 (x0 : (Nat × Nat × Nat) × (Nat × Nat × Nat) × (Nat × Nat × Nat) × (Nat × Nat × Nat) × Unit) (x1 : DConfig) (h0 : List (Int)) (h1 : List (Int)) (h2 : List (Int)) (h3 : List (Int)) : Option ((Bool) × ((List (Int)) × (List (Int)) × (List (Int)) × (List (Int)) × Unit)) :=
  (watershedkit_SameInts_8 (x0.1.1, x0.1.2.1, x0.1.2.2) x1.voters h0).bind fun r1 =>
  (bif r1.1 then
  (watershedkit_SameInts_8 (x0.2.1.1, x0.2.1.2.1, x0.2.1.2.2) x1.old h1).bind fun r2 =>
  (bif r2.1 then
  (watershedkit_SameInts_8 (x0.2.2.1.1, x0.2.2.1.2.1, x0.2.2.1.2.2) x1.learners h2).bind fun r3 =>
  (bif r3.1 then
  (watershedkit_SameInts_8 (x0.2.2.2.1.1, x0.2.2.2.1.2.1, x0.2.2.2.1.2.2) x1.want h3).bind fun r4 =>
  some (r4.1, (r1.2.1, r2.2.1, r3.2.1, r4.2.1, ()))
  else
  some (false, (r1.2.1, r2.2.1, r3.2.1, h3, ())))
  else
  some (false, (r1.2.1, r2.2.1, h2, h3, ())))
  else
  some (false, (r1.2.1, h1, h2, h3, ())))
noncomputable def watershedkit_SameConfig_5_ce : CE CT Try.prog where
  f := 59
  args := [.agg [.as 0 0, .as 0 1, .as 0 2, .as 0 3], .cod 15]
  hs := [.arr 3 0 true, .arr 3 0 true, .arr 3 0 true, .arr 3 0 true]
  res := .val (.one (.bool))
  outs := [.arr 3 0 true, .arr 3 0 true, .arr 3 0 true, .arr 3 0 true]
  m := fun d dh => watershedkit_SameConfig_5 d.1 d.2.1 dh.1 dh.2.1 dh.2.2.1 dh.2.2.2.1
  ok := ce_ok mixedP Try.func59 (by kernel_rfl) (orcOf_ok watershedkit_SameConfig_5_tb) (dr := watershedkit_SameConfig_5_dr) (lps := lpsOf watershedkit_SameConfig_5_lt) (lps_fn (no_loop (by kernel_rfl))) (fun d dh => by kernel_rfl)

def watershedkit_SameBase_3_dr : Nat → Nat → DrA
  | _, _ => ⟨[], [], [], [], [], false, []⟩
noncomputable def watershedkit_SameBase_3_tb : List (CE CT Try.prog) := [watershedkit_SameConfig_5_ce]
noncomputable def watershedkit_SameBase_3_lt : List (LE CT Try.prog) := []
noncomputable def watershedkit_SameBase_3 (x0 : (Int) × (Int) × (Nat × Nat × Nat) × (Nat × Nat × Nat) × (Nat × Nat × Nat) × (Nat × Nat × Nat) × Unit) (x1 : DBase) (h0 : List (Int)) (h1 : List (Int)) (h2 : List (Int)) (h3 : List (Int)) : Option ((Bool) × ((List (Int)) × (List (Int)) × (List (Int)) × (List (Int)) × Unit)) :=
  (bif (decide ((x0.1 : Int) = x1.index)) then
  (bif (decide ((x0.2.1 : Int) = x1.term_)) then
  (watershedkit_SameConfig_5 ((x0.2.2.1.1, x0.2.2.1.2.1, x0.2.2.1.2.2), (x0.2.2.2.1.1, x0.2.2.2.1.2.1, x0.2.2.2.1.2.2), (x0.2.2.2.2.1.1, x0.2.2.2.2.1.2.1, x0.2.2.2.2.1.2.2), (x0.2.2.2.2.2.1.1, x0.2.2.2.2.2.1.2.1, x0.2.2.2.2.2.1.2.2), ()) x1.config h0 h1 h2 h3).bind fun r1 =>
  some (r1.1, (r1.2.1, r1.2.2.1, r1.2.2.2.1, r1.2.2.2.2.1, ()))
  else
  some (false, (h0, h1, h2, h3, ())))
  else
  some (false, (h0, h1, h2, h3, ())))
noncomputable def watershedkit_SameBase_3_ce : CE CT Try.prog where
  f := 38
  args := [.agg [.int .i64, .int .i64, .as 0 0, .as 0 1, .as 0 2, .as 0 3], .cod 18]
  hs := [.arr 3 0 true, .arr 3 0 true, .arr 3 0 true, .arr 3 0 true]
  res := .val (.one (.bool))
  outs := [.arr 3 0 true, .arr 3 0 true, .arr 3 0 true, .arr 3 0 true]
  m := fun d dh => watershedkit_SameBase_3 d.1 d.2.1 dh.1 dh.2.1 dh.2.2.1 dh.2.2.2.1
  ok := ce_ok mixedP Try.func38 (by kernel_rfl) (orcOf_ok watershedkit_SameBase_3_tb) (dr := watershedkit_SameBase_3_dr) (lps := lpsOf watershedkit_SameBase_3_lt) (lps_fn (no_loop (by kernel_rfl))) (fun d dh => by kernel_rfl)

def watershedkit_SameBytes_5_dr : Nat → Nat → DrA
  | 6, _ => ⟨[0, 1, 2, 4, 5, 6, 3, 7, 8], [[], [], [0, 1], [0, 1, 2], [], [], [4, 5], [4, 5, 6], [0, 1, 2, 3, 4, 5, 6, 7]], [], [], [], false, []⟩
  | _, _ => ⟨[], [], [], [], [], false, []⟩
noncomputable def watershedkit_SameBytes_5_tb : List (CE CT Try.prog) := []
noncomputable def watershedkit_SameBytes_5_l1 (a : ((Nat × Nat × Nat) × (List (UInt8)) × (Int) × Unit) × ((List (UInt8)) × Unit)) : Option ((((Nat × Nat × Nat) × (List (UInt8)) × (Int) × Unit) × ((List (UInt8)) × Unit)) ⊕ ((((Bool) × Unit) × ((List (UInt8)) × Unit)) ⊕ ((Unit) × ((List (UInt8)) × Unit)))) :=
  (bif (decide ((a.1.2.2.1 : Int) < ((a.1.1.2.1 : Nat) : Int))) then
  (if 0 ≤ (a.1.2.2.1 : Int) ∧ (a.1.2.2.1 : Int) < ((a.1.1.2.1 : Nat) : Int) then
  (getI a.1.2.1 a.1.2.2.1).bind fun e1 =>
  (a.2.1[(a.1.1.1 + (a.1.2.2.1 : Int).toNat)]?).bind fun e2 =>
  (bif (decide (((e2.toNat : Int) : Int) ≠ (e1.toNat : Int))) then
  some (.inr (.inl ((false, ()), (a.2.1, ()))))
  else
  some (.inl (((a.1.1.1, a.1.1.2.1, a.1.1.2.2), a.1.2.1, (IntKind.i64.wrap (a.1.2.2.1 + 1)), ()), (a.2.1, ()))))
  else none)
  else
  some (.inr (.inr ((), (a.2.1, ())))))
noncomputable def watershedkit_SameBytes_5_e1 : LE CT Try.prog := ⟨4, [0, 1, 5], [.one (.as 1 0), .one (.sl 1), .one (.int .i64)], [.arr 5 1 true], [⟨.ret, [4], [.one (.bool)], [.arr 5 1 true]⟩, ⟨.exit 0, [], [], [.arr 5 1 true]⟩], watershedkit_SameBytes_5_l1⟩
noncomputable def watershedkit_SameBytes_5_lt : List (LE CT Try.prog) := [watershedkit_SameBytes_5_e1]
theorem watershedkit_SameBytes_5_e1_ok : LeOk watershedkit_SameBytes_5_e1 (nthL (bodyOf Try.f39) 0) := fun A env h k z hk => le_ok (E := watershedkit_SameBytes_5_e1) (orcOf_ok watershedkit_SameBytes_5_tb) (dr := watershedkit_SameBytes_5_dr) (lps := lpsOf watershedkit_SameBytes_5_lt) (no_loop (by kernel_rfl)) (fun a => by kernel_rfl) env h k z hk
noncomputable def watershedkit_SameBytes_5 (x0 : Nat × Nat × Nat) (x1 : List (UInt8)) (h0 : List (UInt8)) : Option ((Bool) × ((List (UInt8)) × Unit)) :=
  (bif (decide ((((x0.2.1 : Nat) : Int) : Int) ≠ (x1.length : Int))) then
  some (false, (h0, ()))
  else
  (loopM watershedkit_SameBytes_5_l1 (((x0.1, x0.2.1, x0.2.2), x1, 0, ()), (h0, ()))).bind fun b1 =>
  (match b1 with
  | .inl b2 =>
  some (b2.1.1, (b2.2.1, ()))
  | .inr b3 =>
  some (true, (b3.2.1, ()))))
noncomputable def watershedkit_SameBytes_5_ce : CE CT Try.prog where
  f := 39
  args := [.one (.as 1 0), .one (.sl 1)]
  hs := [.arr 5 1 true]
  res := .val (.one (.bool))
  outs := [.arr 5 1 true]
  m := fun d dh => watershedkit_SameBytes_5 d.1 d.2.1 dh.1
  ok := ce_ok mixedP Try.func39 (by kernel_rfl) (orcOf_ok watershedkit_SameBytes_5_tb) (dr := watershedkit_SameBytes_5_dr) (lps := lpsOf watershedkit_SameBytes_5_lt) (lps_fn (lps_of (n := 1) (by kernel_rfl) fun i hi => match i, hi with | 0, _ => lp_ok (E := watershedkit_SameBytes_5_e1) (by kernel_rfl) watershedkit_SameBytes_5_e1_ok)) (fun d dh => by kernel_rfl)

def watershedkit_SameLetter_2_dr : Nat → Nat → DrA
  | _, _ => ⟨[], [], [], [], [], false, []⟩
noncomputable def watershedkit_SameLetter_2_tb : List (CE CT Try.prog) := [watershedkit_SameEntries_2_ce, watershedkit_SameBase_3_ce, watershedkit_SameBytes_5_ce]
noncomputable def watershedkit_SameLetter_2_lt : List (LE CT Try.prog) := []
noncomputable def watershedkit_SameLetter_2 (x0 : (Int) × (Int) × (Int) × (Int) × (Int) × (Int) × (Int) × (Int) × (Bool) × (Nat × Nat × Nat × Unit) × (Int) × (Int) × (Nat × Nat × Nat) × (Nat × Nat × Nat) × (Nat × Nat × Nat) × (Nat × Nat × Nat) × (Int) × (Int) × (Int) × (Nat × Nat × Nat) × Unit) (x1 : DLetter) (h0 : List (DEntryX)) (h1 : List (Int)) (h2 : List (Int)) (h3 : List (Int)) (h4 : List (Int)) (h5 : List (UInt8)) : Option ((Bool) × ((List (DEntryX)) × (List (Int)) × (List (Int)) × (List (Int)) × (List (Int)) × (List (UInt8)) × Unit)) :=
  (bif (decide ((x0.1 : Int) = x1.kind)) then
  (bif (decide ((x0.2.1 : Int) = x1.group)) then
  (bif (decide ((x0.2.2.1 : Int) = x1.from_)) then
  (bif (decide ((x0.2.2.2.1 : Int) = x1.to_)) then
  (bif (decide ((x0.2.2.2.2.1 : Int) = x1.term_)) then
  (bif (decide ((x0.2.2.2.2.2.1 : Int) = x1.index)) then
  (bif (decide ((x0.2.2.2.2.2.2.1 : Int) = x1.logTerm)) then
  (bif (decide ((x0.2.2.2.2.2.2.2.1 : Int) = x1.commit)) then
  (bif (decide (x0.2.2.2.2.2.2.2.2.1 = x1.ok)) then
  (watershedkit_SameEntries_2 (x0.2.2.2.2.2.2.2.2.2.1.1, x0.2.2.2.2.2.2.2.2.2.1.2.1, x0.2.2.2.2.2.2.2.2.2.1.2.2.1, ()) x1.entries h0).bind fun r1 =>
  (bif r1.1 then
  (watershedkit_SameBase_3 (x0.2.2.2.2.2.2.2.2.2.2.1, x0.2.2.2.2.2.2.2.2.2.2.2.1, (x0.2.2.2.2.2.2.2.2.2.2.2.2.1.1, x0.2.2.2.2.2.2.2.2.2.2.2.2.1.2.1, x0.2.2.2.2.2.2.2.2.2.2.2.2.1.2.2), (x0.2.2.2.2.2.2.2.2.2.2.2.2.2.1.1, x0.2.2.2.2.2.2.2.2.2.2.2.2.2.1.2.1, x0.2.2.2.2.2.2.2.2.2.2.2.2.2.1.2.2), (x0.2.2.2.2.2.2.2.2.2.2.2.2.2.2.1.1, x0.2.2.2.2.2.2.2.2.2.2.2.2.2.2.1.2.1, x0.2.2.2.2.2.2.2.2.2.2.2.2.2.2.1.2.2), (x0.2.2.2.2.2.2.2.2.2.2.2.2.2.2.2.1.1, x0.2.2.2.2.2.2.2.2.2.2.2.2.2.2.2.1.2.1, x0.2.2.2.2.2.2.2.2.2.2.2.2.2.2.2.1.2.2), ()) x1.base h1 h2 h3 h4).bind fun r2 =>
  (bif r2.1 then
  (bif (decide ((x0.2.2.2.2.2.2.2.2.2.2.2.2.2.2.2.2.1 : Int) = x1.size)) then
  (bif (decide ((x0.2.2.2.2.2.2.2.2.2.2.2.2.2.2.2.2.2.1 : Int) = x1.at_)) then
  (bif (decide ((x0.2.2.2.2.2.2.2.2.2.2.2.2.2.2.2.2.2.2.1 : Int) = x1.tag)) then
  (watershedkit_SameBytes_5 (x0.2.2.2.2.2.2.2.2.2.2.2.2.2.2.2.2.2.2.2.1.1, x0.2.2.2.2.2.2.2.2.2.2.2.2.2.2.2.2.2.2.2.1.2.1, x0.2.2.2.2.2.2.2.2.2.2.2.2.2.2.2.2.2.2.2.1.2.2) x1.bytes h5).bind fun r3 =>
  some (r3.1, (r1.2.1, r2.2.1, r2.2.2.1, r2.2.2.2.1, r2.2.2.2.2.1, r3.2.1, ()))
  else
  some (false, (r1.2.1, r2.2.1, r2.2.2.1, r2.2.2.2.1, r2.2.2.2.2.1, h5, ())))
  else
  some (false, (r1.2.1, r2.2.1, r2.2.2.1, r2.2.2.2.1, r2.2.2.2.2.1, h5, ())))
  else
  some (false, (r1.2.1, r2.2.1, r2.2.2.1, r2.2.2.2.1, r2.2.2.2.2.1, h5, ())))
  else
  some (false, (r1.2.1, r2.2.1, r2.2.2.1, r2.2.2.2.1, r2.2.2.2.2.1, h5, ())))
  else
  some (false, (r1.2.1, h1, h2, h3, h4, h5, ())))
  else
  some (false, (h0, h1, h2, h3, h4, h5, ())))
  else
  some (false, (h0, h1, h2, h3, h4, h5, ())))
  else
  some (false, (h0, h1, h2, h3, h4, h5, ())))
  else
  some (false, (h0, h1, h2, h3, h4, h5, ())))
  else
  some (false, (h0, h1, h2, h3, h4, h5, ())))
  else
  some (false, (h0, h1, h2, h3, h4, h5, ())))
  else
  some (false, (h0, h1, h2, h3, h4, h5, ())))
  else
  some (false, (h0, h1, h2, h3, h4, h5, ())))
  else
  some (false, (h0, h1, h2, h3, h4, h5, ())))
noncomputable def watershedkit_SameLetter_2_ce : CE CT Try.prog where
  f := 14
  args := [.agg [.int .u8, .int .i64, .int .i64, .int .i64, .int .i64, .int .i64, .int .i64, .int .i64, .bool, .gv 0 28 3, .int .i64, .int .i64, .as 0 1, .as 0 2, .as 0 3, .as 0 4, .int .i64, .int .i64, .int .i64, .as 1 5], .cod 19]
  hs := [.gen 8 true, .arr 3 0 true, .arr 3 0 true, .arr 3 0 true, .arr 3 0 true, .arr 5 1 true]
  res := .val (.one (.bool))
  outs := [.gen 8 true, .arr 3 0 true, .arr 3 0 true, .arr 3 0 true, .arr 3 0 true, .arr 5 1 true]
  m := fun d dh => watershedkit_SameLetter_2 d.1 d.2.1 dh.1 dh.2.1 dh.2.2.1 dh.2.2.2.1 dh.2.2.2.2.1 dh.2.2.2.2.2.1
  ok := ce_ok mixedP Try.func14 (by kernel_rfl) (orcOf_ok watershedkit_SameLetter_2_tb) (dr := watershedkit_SameLetter_2_dr) (lps := lpsOf watershedkit_SameLetter_2_lt) (lps_fn (no_loop (by kernel_rfl))) (fun d dh => by kernel_rfl)

def watershedkit_KeptBytes_dr : Nat → Nat → DrA
  | 7, _ => ⟨[0, 1, 2, 3, 4, 5, 6, 7, 9, 10, 11, 8, 12, 13, 14, 15, 16, 17, 18, 19, 20, 21, 22, 23, 24, 26, 27, 28, 29, 25, 30, 31, 32, 33, 34], [[], [], [1], [0, 1, 2], [0, 1, 2, 3], [0, 1, 2, 3, 4], [0, 1, 2, 3, 4], [0, 1, 2, 3, 4, 5, 6], [0, 1, 2, 3, 4, 5, 6, 7], [0, 1, 2, 3, 4], [0, 1, 2, 3, 4], [0, 1, 2, 3, 4, 9, 10], [0, 1, 2, 3, 4, 9, 10, 11], [0, 1, 2, 3, 4, 5, 6, 7, 8, 9, 10, 11, 12], [0, 1, 2, 3, 4, 5, 6, 7, 8, 9, 10, 11, 12, 13], [0, 1, 2, 3, 4, 5, 6, 7, 8, 9, 10, 11, 12, 13, 14], [0, 1, 2, 3, 4, 5, 6, 7, 8, 9, 10, 11, 12, 13, 14, 15], [0, 1, 2, 3, 4, 5, 6, 7, 8, 9, 10, 11, 12, 13, 14, 15, 16], [0, 1, 2, 3, 4, 5, 6, 7, 8, 9, 10, 11, 12, 13, 14, 15, 16], [0, 1, 2, 3, 4, 5, 6, 7, 8, 9, 10, 11, 12, 13, 14, 15, 16, 18], [0, 1, 2, 3, 4, 5, 6, 7, 8, 9, 10, 11, 12, 13, 14, 15, 16, 17, 18, 19], [0, 1, 2, 3, 4, 5, 6, 7, 8, 9, 10, 11, 12, 13, 14, 15, 16, 17, 18, 19, 20], [0, 1, 2, 3, 4, 5, 6, 7, 8, 9, 10, 11, 12, 13, 14, 15, 16, 17, 18, 19, 20, 21], [0, 1, 2, 3, 4, 5, 6, 7, 8, 9, 10, 11, 12, 13, 14, 15, 16, 17, 18, 19, 20, 21], [0, 1, 2, 3, 4, 5, 6, 7, 8, 9, 10, 11, 12, 13, 14, 15, 16, 17, 18, 19, 20, 21, 22, 23], [0, 1, 2, 3, 4, 5, 6, 7, 8, 9, 10, 11, 12, 13, 14, 15, 16, 17, 18, 19, 20, 21, 22, 23, 24], [0, 1, 2, 3, 4, 5, 6, 7, 8, 9, 10, 11, 12, 13, 14, 15, 16, 17, 18, 19, 20, 21], [0, 1, 2, 3, 4, 5, 6, 7, 8, 9, 10, 11, 12, 13, 14, 15, 16, 17, 18, 19, 20, 21], [0, 1, 2, 3, 4, 5, 6, 7, 8, 9, 10, 11, 12, 13, 14, 15, 16, 17, 18, 19, 20, 21, 27], [0, 1, 2, 3, 4, 5, 6, 7, 8, 9, 10, 11, 12, 13, 14, 15, 16, 17, 18, 19, 20, 21, 26, 27, 28], [0, 1, 2, 3, 4, 5, 6, 7, 8, 9, 10, 11, 12, 13, 14, 15, 16, 17, 18, 19, 20, 21, 26, 27, 28, 29], [0, 1, 2, 3, 4, 5, 6, 7, 8, 9, 10, 11, 12, 13, 14, 15, 16, 17, 18, 19, 20, 21, 22, 23, 24, 25, 26, 27, 28, 29, 30], [0, 1, 2, 3, 4, 5, 6, 7, 8, 9, 10, 11, 12, 13, 14, 15, 16, 17, 18, 19, 20, 21, 22, 23, 24, 25, 26, 27, 28, 29, 30, 31], [0, 1, 2, 3, 4, 5, 6, 7, 8, 9, 10, 11, 12, 13, 14, 15, 16, 17, 18, 19, 20, 21, 22, 23, 24, 25, 26, 27, 28, 29, 30, 31, 32], [0, 1, 2, 3, 4, 5, 6, 7, 8, 9, 10, 11, 12, 13, 14, 15, 16, 17, 18, 19, 20, 21, 22, 23, 24, 25, 26, 27, 28, 29, 30, 31, 32, 33]], [25], [30], [0], false, []⟩
  | _, _ => ⟨[], [], [], [], [], false, []⟩
end Go.Proofs.Ytlaehnldaejipaa
